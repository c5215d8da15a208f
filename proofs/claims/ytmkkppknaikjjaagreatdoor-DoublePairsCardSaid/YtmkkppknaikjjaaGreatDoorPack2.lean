/- Several texts in one: TelR, RRec, OwnAt, RecT. -/
import Derived.Test.YtmkkppknaikjjaaGreatDoorPackS
import Derived.Test.YtmkkppknaikjjaaGreatDoorPack1
import Derived.Test.YtmkkppknaikjjaaGreatDoorPackO
/- handref2.tellings: what the touches of a person tell, by names. -/
set_option maxHeartbeats 8000000
set_option maxRecDepth 100000
open Go.Lib renaming hid→Z9, compareBytes→YC
open List renaming getElem?_eq_getElem→Z8, mem_of_getElem?→Z7, length_append→Z4, getElem?_set_self→ZY, length_map→ZW, length_cons→ZV, getElem?_map→ZT, length_take→ZR, map_append→ZP, append_assoc→ZM, length_singleton→ZA, map_cons→Zt, mem_cons_of_mem→Zq, take_length→Zp, map_set→Zg, length→Zf, flatMap_cons→Y5, mem_cons_self→Y2
open Nat renaming le_refl→Z5, zero_le→ZN, le_trans→ZE, zero_add→Zh
open Go.RowKit.Below renaming refl→ZX
open Bool renaming or_eq_true→Ze
namespace Go.Proofs.YtmkkppknaikjjaaGreatDoor
section
open Go Go.RowKit
def nI (aC:List Int)(t:ak):List (ByteArray×Tc):=if aC.contains t.no=true then wM t else []
def zo (ts:List ak)(aC:List Int):List (ByteArray×Tc):=ts.flatMap (nI aC)
theorem ad5 {ts:List ak}{aC:List Int}{k:Nat}{t:ak}(h:ts[k]? =some t):(ts.take (k + 1)).flatMap (nI aC)=(ts.take k).flatMap (nI aC)++nI aC t:=by
 rw [take_snoc h,List.flatMap_append,List.flatMap_singleton]
theorem WB {aC:List Int}:∀ (ts:List ak),(∀ t∈ts,t.aB.length≤1000)→(ts.flatMap (nI aC)).length≤1000 * ts.length
 | [],_=>ZN _
 | t::r,h=>by
  rw [Y5,Z4,ZV];have h1:=WB (aC:=aC) r (fun x hx=>h x (Zq _ hx));have h2:(nI aC t).length≤1000:=by
   unfold nI wM;split
   ·rw [ZW];exact h t (Y2 ..)
   ·exact ZN _
  omega
theorem ad6 (A:Option Addr)(c:Nat)(ts:List ak)(p:Psn)(At Ap:Option Addr)(ca cp:Nat)(wz:World)(hT:Sl fU (fun _=>False) wz A ts)(htl:ts.length≤2000)(hfl:∀ t∈ts,t.aB.length≤1000)(hpl:p.aC.length≤1000000)(hC:Sl ay (fun _=>False) wz At p.aC) :
  Calls Tryz.prog 133 #[.slice A ts.length c,.agg (o8 p At ca Ap cp)] wz (WC (zo ts p.aC) wz):=by
 have Ig:=Z9 hfl;have hmm:=@run_makeMap Tryz.prog;obtain ⟨P9,PY⟩:∃ P9,P9=wz.heap.size:=⟨_,rfl⟩;have T0:Mem wz (wz.alloc (.cells (o8 p At ca Ap cp) 80)) [.loc P9 (o8 p At ca Ap cp) 80]:=(Mem.start wz).newAt _ 80 P9 PY;have HT0:=Z9 (T0.del 0);have HT1:=Z9 (hT.aK T0.b);have tC:=Z9 (hC.aK T0.b);have Hlv:=Z9 (T0.lv 0 rfl);clear hC hfl hT T0;go_enter Tryz.func133,Tryz.ntmps133
 go_upto_region 1 with fail
 rw [← PY];clear PY;generalize wz.alloc (.cells (o8 p At ca Ap cp) 80)=w at *;have HT:=Z9 (fun w' (h:Below w.heap.size w w')=>HT1.out.aK h);have HCn:=Z9 (fun w' (z:Int) (h:Below w.heap.size w w')=>Ih (fun _=>False) At p.aC ca p.aC.length z w' (tC.out.aK h) (Z5 _) hpl);have HP:=Z9 (fun w' (h:Below w.heap.size w w')=>LV.dQ Hlv.out h Hlv.out.lt);clear HT1 tC Hlv;obtain ⟨Y,hY⟩:∃ Y,Y=w.heap.size:=⟨_,rfl⟩;have Hb:=Z9 hY;obtain ⟨M,hM⟩:∃ M,M=w.heap.size:=⟨_,rfl⟩;have T1:Mem w (w.alloc (.map #[] 0)) ([.aJ dH M (([]:List TS).map TS.kv)]++([]:List TS).map (dZ Y 214)):=(Mem.start w).zD dH M hM;clear hY;go_upto_region 2 with fail
 rw [← hM];clear hM hmm;generalize w.alloc (.map #[] 0)=w2 at *;go_wp2_with fail
 go_loopw [13] (fun ix wr=>∃ (k:Nat) (qs:List TS) (L:List (ByteArray×aj)),k≤ts.length∧ix=.int .i64 k∧Hid (kY L qs)∧Hid (jr L=(ts.take k).flatMap (nI p.aC))∧Mem w wr ([.aJ dH M (qs.map TS.kv)]++qs.map (dZ Y 214))) (fun ix _=>ts.length - (intOf ix).toNat)
 case atStart=>exact ⟨0,[],[],ZN _,rfl,kY.start,rfl,T1⟩
 case round =>
  clear T1;obtain ⟨k,qs,L,hk,rfl,HO,HL,S1⟩:=hrel;by_cases hlt:k < ts.length
  ·obtain ⟨t,ht⟩:∃ t,ts[k]? =some t:=⟨_,Z8 hlt⟩;obtain ⟨bt,ot,Ai,ci,Af,cf,rfl,hbt,t0,t1,t2,t3,t4,_,WE⟩:=(HT.out w (ZX _ _)).aC k t ht;have hcl:=fun (p:Addr) (hp:p.block < w.heap.size)=>S1.b.cell hp;rw [← hcl _ hbt] at t0 t1 t2 t3 t4;clear hcl;have HF:=Z9 (fun w' (h:Below w.heap.size w w')=>WE.aK h);have hfl:t.aB.length≤1000:=Ig.out t (Z7 ht);have rM:=Z9 (ad5 (aC:=p.aC) ht);have Hlen:Hid (((ts.take k).flatMap (nI p.aC)).length + t.aB.length≤2001000):=by
    show _≤_;have h1:=WB (aC:=p.aC) (ts.take k) (fun x hx=>Ig.out x (List.mem_of_mem_take hx));rw [ZR] at h1;omega
   obtain ⟨TB,hTB⟩:∃ TB,TB=wr.heap.size:=⟨_,rfl⟩;have S2:Mem w (wr.alloc (.cells (aS t Ai ci Af cf) 58)) (.loc TB (aS t Ai ci Af cf) 58::([.aJ dH M (qs.map TS.kv)]++qs.map (dZ Y 214))):=(S1.newAt (aS t Ai ci Af cf) 58 TB hTB).front;clear WE ht;go_upto_region 5 with fail
   rw [← hTB];clear hTB S1 t0 t1 t2 t3 t4;generalize wr.alloc (.cells (aS t Ai ci Af cf) 58)=w3 at *;obtain ⟨bc,hbc⟩:∃ bc,(p.aC.take p.aC.length).contains t.no=bc:=⟨_,rfl⟩;have qL:=Z9 (fun w' (h:Below w.heap.size w w')=>HCn.out w' t.no h);rw [hbc] at qL;have ad7:Hid ((ts.take (k + 1)).flatMap (nI p.aC)=(ts.take k).flatMap (nI p.aC)++(if bc=true then (t.aB.take t.aB.length).map (tH t) else [])):=by
    show _=_;rw [rM.out,Zp,← hbc,Zp];rfl
   have l0:=(S2.lv 0 rfl).all;clear hbc rM;go_wp2_with fail
   clear l0;go_loopw [20] (fun ix wr=>∃ (n:Nat) (qs:List TS) (L:List (ByteArray×aj)),n≤t.aB.length∧ix=.int .i64 n∧Hid (kY L qs)∧Hid (jr L=(ts.take k).flatMap (nI p.aC)++(if bc=true then (t.aB.take n).map (tH t) else []))∧Mem w wr (.loc TB (aS t Ai ci Af cf) 58::([.aJ dH M (qs.map TS.kv)]++qs.map (dZ Y 214)))) (fun ix _=>t.aB.length - (intOf ix).toNat)
   case atStart=>exact ⟨0,qs,L,ZN _,rfl,HO,(by show _=_;rw [HL.out];cases bc <;> simp),S2⟩
   case round =>
    clear S2 HO HL;obtain ⟨n,q0,L,hn,rfl,HO,HL,S1⟩:=hrel;by_cases hlt2:n < t.aB.length
    ·obtain ⟨f,hf⟩:∃ f,t.aB[n]? =some f:=⟨_,Z8 hlt2⟩;obtain ⟨b7,o7,rfl,hb7,f0,f1,f2,f3⟩:=(HF.out wr S1.b).wO n f hf;have BU:=Z9 (WG hf);have PZ:Hid (L.length≤2001000):=by
      have h1:=congrArg Zf HL.out;unfold jr at h1;have h2:(if bc=true then (t.aB.take n).map (tH t) else []).length≤t.aB.length:=by
       split
       ·rw [ZW,ZR];omega
       ·exact ZN _
      rw [ZW,Z4] at h1;have:=Hlen.out
      show _≤_;omega
     clear hf;obtain ⟨V,hV⟩:∃ V,V=wr.heap.size:=⟨_,rfl⟩;have S2:Mem w (wr.alloc (.cells (dI f) 176)) (.loc V (dI f) 176::(.loc TB (aS t Ai ci (some ⟨b7,o7,none⟩) cf) 58::([.aJ dH M (q0.map TS.kv)]++q0.map (dZ Y 214)))):=(S1.newAt (dI f) 176 V hV).front;go_upto_region 8 with fail
     rw [← hV];clear hV S1 f0 f1 f2 f3;generalize wr.alloc (.cells (dI f) 176)=w4 at *;have l1:=(S2.lv 1 rfl).all;have p0:=(HP.out w4 S2.b).all;go_wp2_with fail
     refine (qL.out w4 S2.b).mono ?_;rintro e _ ⟨rfl,rfl⟩;clear l1 p0;cases bc
     ·have HL2:Hid (jr L=(ts.take k).flatMap (nI p.aC)++(if false=true then (t.aB.take (n + 1)).map (tH t) else [])):=HL.out;clear HL;go_wp2_with fail
      go_roundw
      case rel=>exact ⟨n + 1,q0,L,by omega,by go_num,HO,HL2,S2.drop1⟩
      case measure=>simp [intOf];omega
     ·have HL2:Hid (jr (L++[(f.name,(⟨⟨t.no,t.at',t.src,⟨f.kind,f.text,f.num⟩⟩,Ai,t.ids.length,ci,some ⟨b7,o7,none⟩,t.aB.length,cf⟩:aj))])=(ts.take k).flatMap (nI p.aC)++(if true=true then (t.aB.take (n + 1)).map (tH t) else [])):=by
       show _=_;rw [WH,HL.out,if_pos rfl,if_pos rfl,BU.out,ZM];rfl
      go_wp2_with fail
      obtain ⟨aI,j,q,e1,e2,e3,e4,e5,e6,e7⟩:=WI q0 HO.out.nd f.name;have T:=e7 Y 214 w w4 (.loc V (dI f) 176::(.loc TB (aS t Ai ci (some ⟨b7,o7,none⟩) cf) 58)::[.aJ dH M (q0.map TS.kv)]) S2;replace T:Mem w w4 (.loc V (dI f) 176::(.loc TB (aS t Ai ci (some ⟨b7,o7,none⟩) cf) 58)::.aJ dH M (q0.map TS.kv)::aI.map (dZ Y 214)):=T;have bY:Hid (q.ls.length≤2001000):=by
       show _≤_;rw [← e5,HO.out.getD];exact ZE (LK _ _) PZ.out
      have e1:=Z9 e1;have e2:=Z9 e2;have e3:=Z9 e3;have e4:=Z9 e4;have e5:=Z9 e5;have e6:=Z9 e6;clear S2 e7;refine wJ [] (fun w'=>Below w.heap.size w w'∧LV w' V (dI f) 176∧LV w' TB (aS t Ai ci (some ⟨b7,o7,none⟩) cf) 58) (.p 0 (.p 1 (.q 2 (.p 3 (.p 4 (.q 5 (.q 7 (.p 8 (.q 9 (.p 10 (.e2 6 (.e 11 (.e 12 (.e 13 .z))) 11 (.e 6 (.e 12 (.e 13 .z)))))))))))))) (by kernel_rfl) (by kernel_rfl) (fun w' hd=>⟨(T.below (hd.below _)).b,(T.below (hd.below _)).lv 0 rfl,(T.below (hd.below _)).lv 1 rfl⟩) (fun KK aF wd hd=>?_);replace T:=T.below (hd.below _);clear hd;refine dN ?_;refine jc (.string f.name) rfl rfl rfl rfl (fun w' h=>eX rfl (h.2.1.cell 0 _ rfl)) ?_;refine dN ?_;refine jc (.string f.name) rfl rfl rfl rfl (fun w' h=>eX rfl (h.2.1.cell 0 _ rfl)) ?_;refine jc (.agg (aS t Ai ci (some ⟨b7,o7,none⟩) cf)) rfl rfl rfl rfl (fun w' h=>WJ (h.2.2.cell 0 _ rfl) (h.2.2.cell 1 _ rfl) (h.2.2.cell 2 _ rfl) (h.2.2.cell 3 _ rfl) (h.2.2.cell 4 _ rfl) ⟨_,_,_,rfl⟩ ⟨_,_,_,rfl⟩) ?_;refine dN ?_;refine jc (.agg #[.int .i64 f.kind,.string f.text,.int .i64 f.num]) rfl rfl rfl rfl (fun w' h=>WL (h.2.1.cell 1 _ rfl) (h.2.1.cell 2 _ rfl) (h.2.1.cell 3 _ rfl)) ?_;refine dN ?_;refine EW (qM rfl rfl (fun K9 hK9=>?_)) (qM rfl rfl (fun K9 hK9=>?_))
      ·have hlk:=tJ (K:=dH) (T:=210) (E:=212) (T.ok (.aJ dH M (q0.map TS.kv)) (by simp):mO dH wd M (q0.map TS.kv)) (by kernel_rfl) (WM wd) f.name false;rw [if_neg (by decide),e4.out] at hlk;replace hlk:(Instr.lookup 210 (.map (some M)) (.string f.name) false).run Tryz.prog wd=.ok (.slice q.A q.ls.length q.c) wd:=hlk;go_wp2_with fail
       refine ⟨⟨T.b,(by first | exact T.lv 0 rfl | exact ⟨T.lv 0 rfl,T.lv (0 + 1) rfl⟩)⟩,?_⟩;clear hlk;refine gX rfl rfl (fun K9 hK9=>?_);go_wp2_with fail
       obtain ⟨U,hU⟩:∃ U,U=(wd).heap.size:=⟨_,rfl⟩;replace T:Mem w ((wd).alloc (.cells #[.int .i64 t.no,.int .i64 t.at',.string t.src,.slice Ai t.ids.length ci,.slice (some ⟨b7,o7,none⟩) t.aB.length cf,.int .i64 f.kind,.string f.text,.int .i64 f.num] 214)) (.loc U #[.int .i64 t.no,.int .i64 t.at',.string t.src,.slice Ai t.ids.length ci,.slice (some ⟨b7,o7,none⟩) t.aB.length cf,.int .i64 f.kind,.string f.text,.int .i64 f.num] 214::.loc V (dI f) 176::(.loc TB (aS t Ai ci (some ⟨b7,o7,none⟩) cf) 58)::.aJ dH M (q0.map TS.kv)::aI.map (dZ Y 214)):=(T.newAt _ 214 U hU).front;rw [← hU];clear hU;generalize (wd).alloc (.cells #[.int .i64 t.no,.int .i64 t.at',.string t.src,.slice Ai t.ids.length ci,.slice (some ⟨b7,o7,none⟩) t.aB.length cf,.int .i64 f.kind,.string f.text,.int .i64 f.num] 214)=we at *;refine ⟨⟨T.b,(by first | exact T.lv 1 rfl | exact ⟨T.lv 1 rfl,T.lv 2 rfl⟩)⟩,?_⟩;have hcs:∀ (j:Nat) (u:Value),([(⟨⟨t.no,t.at',t.src,⟨f.kind,f.text,f.num⟩⟩,Ai,t.ids.length,ci,some ⟨b7,o7,none⟩,t.aB.length,cf⟩:aj)].map aj.cells).flatten[j]? =some u→(we).cell? ((⟨U,0,none⟩:Addr).add j)=some u:=fun j u hu=>by
        have h0:=(T.lv 0 rfl).cell j u (by simpa [aj.cells] using hu);rw [qN,Zh];exact h0
       have hsB:Y≤(we).heap.size:=by rw [Hb.out];exact T.b.size
       refine gX rfl rfl (fun K9 hK9=>?_);refine T.nJ jF (j + 4) (by show (aI.map (dZ Y 214))[j]? =_;rw [ZT,e1.out];rfl) WO rfl _ _ rfl [(⟨⟨t.no,t.at',t.src,⟨f.kind,f.text,f.num⟩⟩,Ai,t.ids.length,ci,some ⟨b7,o7,none⟩,t.aB.length,cf⟩:aj)] 1 1 rfl rfl ⟨U,0,none⟩ rfl hcs (fun y _=>Ii y) (fun _=>rfl) hsB (by simp only [ZA];have:=bY.out;omega) (by decide) ?_;intro v9 w9 S9;have hi9:((aI.map (dZ Y 214)).set j (.own bU Y 214 v9 (q.ls++[(⟨⟨t.no,t.at',t.src,⟨f.kind,f.text,f.num⟩⟩,Ai,t.ids.length,ci,some ⟨b7,o7,none⟩,t.aB.length,cf⟩:aj)])))[j]? =some (.own bU Y 214 v9 (q.ls++[(⟨⟨t.no,t.at',t.src,⟨f.kind,f.text,f.num⟩⟩,Ai,t.ids.length,ci,some ⟨b7,o7,none⟩,t.aB.length,cf⟩:aj)])):=ZY (by rw [ZW];exact bM e1.out);replace S9:Mem w w9 (.loc U #[.int .i64 t.no,.int .i64 t.at',.string t.src,.slice Ai t.ids.length ci,.slice (some ⟨b7,o7,none⟩) t.aB.length cf,.int .i64 f.kind,.string f.text,.int .i64 f.num] 214::.loc V (dI f) 176::(.loc TB (aS t Ai ci (some ⟨b7,o7,none⟩) cf) 58)::.aJ dH M (q0.map TS.kv)::(aI.map (dZ Y 214)).set j (.own bU Y 214 v9 (q.ls++[(⟨⟨t.no,t.at',t.src,⟨f.kind,f.text,f.num⟩⟩,Ai,t.ids.length,ci,some ⟨b7,o7,none⟩,t.aB.length,cf⟩:aj)]))):=S9;obtain ⟨A9,c9,e9⟩:=(S9.ow (j + 4) hi9).len;subst e9;replace S9:Mem w w9 (.loc U #[.int .i64 t.no,.int .i64 t.at',.string t.src,.slice Ai t.ids.length ci,.slice (some ⟨b7,o7,none⟩) t.aB.length cf,.int .i64 f.kind,.string f.text,.int .i64 f.num] 214::.loc V (dI f) 176::(.loc TB (aS t Ai ci (some ⟨b7,o7,none⟩) cf) 58)::.aJ dH M (q0.map TS.kv)::(aI.set j ⟨f.name,A9,c9,q.ls++[(⟨⟨t.no,t.at',t.src,⟨f.kind,f.text,f.num⟩⟩,Ai,t.ids.length,ci,some ⟨b7,o7,none⟩,t.aB.length,cf⟩:aj)]⟩).map (dZ Y 214)):=by rw [Zg];exact S9
       clear hcs hi9 T;go_wp2_with fail
       refine ⟨⟨S9.b,(by first | exact S9.lv 1 rfl | exact ⟨S9.lv 1 rfl,S9.lv 2 rfl⟩)⟩,?_⟩;refine gX rfl rfl (fun K9 hK9=>?_);refine S9.wP 3 rfl (T:=210) (E:=212) (by kernel_rfl) rfl _ _ _ rfl rfl f.name rfl (.slice A9 (q.ls++[(⟨⟨t.no,t.at',t.src,⟨f.kind,f.text,f.num⟩⟩,Ai,t.ids.length,ci,some ⟨b7,o7,none⟩,t.aB.length,cf⟩:aj)]).length c9) rfl ?_;intro w10 aZ;obtain ⟨u1,u2⟩:=e6.out ⟨f.name,A9,c9,q.ls++[(⟨⟨t.no,t.at',t.src,⟨f.kind,f.text,f.num⟩⟩,Ai,t.ids.length,ci,some ⟨b7,o7,none⟩,t.aB.length,cf⟩:aj)]⟩ rfl;replace aZ:Mem w w10 (.loc U #[.int .i64 t.no,.int .i64 t.at',.string t.src,.slice Ai t.ids.length ci,.slice (some ⟨b7,o7,none⟩) t.aB.length cf,.int .i64 f.kind,.string f.text,.int .i64 f.num] 214::.loc V (dI f) 176::(.loc TB (aS t Ai ci (some ⟨b7,o7,none⟩) cf) 58)::.aJ dH M ((aI.set j ⟨f.name,A9,c9,q.ls++[(⟨⟨t.no,t.at',t.src,⟨f.kind,f.text,f.num⟩⟩,Ai,t.ids.length,ci,some ⟨b7,o7,none⟩,t.aB.length,cf⟩:aj)]⟩).map TS.kv)::(aI.set j ⟨f.name,A9,c9,q.ls++[(⟨⟨t.no,t.at',t.src,⟨f.kind,f.text,f.num⟩⟩,Ai,t.ids.length,ci,some ⟨b7,o7,none⟩,t.aB.length,cf⟩:aj)]⟩).map (dZ Y 214)):=by rw [← u1];exact aZ
       have CG:Hid (kY (L++[(f.name,(⟨⟨t.no,t.at',t.src,⟨f.kind,f.text,f.num⟩⟩,Ai,t.ids.length,ci,some ⟨b7,o7,none⟩,t.aB.length,cf⟩:aj))]) (aI.set j ⟨f.name,A9,c9,q.ls++[(⟨⟨t.no,t.at',t.src,⟨f.kind,f.text,f.num⟩⟩,Ai,t.ids.length,ci,some ⟨b7,o7,none⟩,t.aB.length,cf⟩:aj)]⟩)):=HO.out.put rfl (by show q.ls++[(⟨⟨t.no,t.at',t.src,⟨f.kind,f.text,f.num⟩⟩,Ai,t.ids.length,ci,some ⟨b7,o7,none⟩,t.aB.length,cf⟩:aj)]=_;rw [← e5.out,HO.out.getD]) u2 e3.out ⟨q,e1.out,e2.out⟩;clear S9 u1 u2;go_wp2_with fail
       refine ⟨⟨aZ.b,(by first | exact aZ.lv 1 rfl | exact ⟨aZ.lv 1 rfl,aZ.lv 2 rfl⟩)⟩,?_⟩;refine rJ ?_;simp only [Exit.then];refine aF _ _ ?_;clear aF KK;go_wp2_with fail
       go_roundw
       case rel=>exact ⟨n + 1,aI.set j ⟨f.name,A9,c9,q.ls++[(⟨⟨t.no,t.at',t.src,⟨f.kind,f.text,f.num⟩⟩,Ai,t.ids.length,ci,some ⟨b7,o7,none⟩,t.aB.length,cf⟩:aj)]⟩,L++[(f.name,(⟨⟨t.no,t.at',t.src,⟨f.kind,f.text,f.num⟩⟩,Ai,t.ids.length,ci,some ⟨b7,o7,none⟩,t.aB.length,cf⟩:aj))],by omega,by go_num,CG,HL2,aZ.drop2⟩
       case measure=>simp [intOf];omega
      ·go_wp2_with fail
       obtain ⟨U,hU⟩:∃ U,U=(wd).heap.size:=⟨_,rfl⟩;replace T:Mem w ((wd).alloc (.cells #[.int .i64 t.no,.int .i64 t.at',.string t.src,.slice Ai t.ids.length ci,.slice (some ⟨b7,o7,none⟩) t.aB.length cf,.int .i64 f.kind,.string f.text,.int .i64 f.num] 214)) (.loc U #[.int .i64 t.no,.int .i64 t.at',.string t.src,.slice Ai t.ids.length ci,.slice (some ⟨b7,o7,none⟩) t.aB.length cf,.int .i64 f.kind,.string f.text,.int .i64 f.num] 214::.loc V (dI f) 176::(.loc TB (aS t Ai ci (some ⟨b7,o7,none⟩) cf) 58)::.aJ dH M (q0.map TS.kv)::aI.map (dZ Y 214)):=(T.newAt _ 214 U hU).front;rw [← hU];clear hU;generalize (wd).alloc (.cells #[.int .i64 t.no,.int .i64 t.at',.string t.src,.slice Ai t.ids.length ci,.slice (some ⟨b7,o7,none⟩) t.aB.length cf,.int .i64 f.kind,.string f.text,.int .i64 f.num] 214)=we at *;refine ⟨⟨T.b,(by first | exact T.lv 1 rfl | exact ⟨T.lv 1 rfl,T.lv 2 rfl⟩)⟩,?_⟩;refine gX rfl rfl (fun K9 hK9=>?_);have hlk:=tJ (K:=dH) (T:=210) (E:=212) (T.ok (.aJ dH M (q0.map TS.kv)) (by simp):mO dH we M (q0.map TS.kv)) (by kernel_rfl) (WM we) f.name false;rw [if_neg (by decide),e4.out] at hlk;replace hlk:(Instr.lookup 210 (.map (some M)) (.string f.name) false).run Tryz.prog we=.ok (.slice q.A q.ls.length q.c) we:=hlk;go_wp2_with fail
       refine ⟨⟨T.b,(by first | exact T.lv 1 rfl | exact ⟨T.lv 1 rfl,T.lv (1 + 1) rfl⟩)⟩,?_⟩;clear hlk;have hcs:∀ (j:Nat) (u:Value),([(⟨⟨t.no,t.at',t.src,⟨f.kind,f.text,f.num⟩⟩,Ai,t.ids.length,ci,some ⟨b7,o7,none⟩,t.aB.length,cf⟩:aj)].map aj.cells).flatten[j]? =some u→(we).cell? ((⟨U,0,none⟩:Addr).add j)=some u:=fun j u hu=>by
        have h0:=(T.lv 0 rfl).cell j u (by simpa [aj.cells] using hu);rw [qN,Zh];exact h0
       have hsB:Y≤(we).heap.size:=by rw [Hb.out];exact T.b.size
       refine gX rfl rfl (fun K9 hK9=>?_);refine T.nJ jF (j + 4) (by show (aI.map (dZ Y 214))[j]? =_;rw [ZT,e1.out];rfl) WO rfl _ _ rfl [(⟨⟨t.no,t.at',t.src,⟨f.kind,f.text,f.num⟩⟩,Ai,t.ids.length,ci,some ⟨b7,o7,none⟩,t.aB.length,cf⟩:aj)] 1 1 rfl rfl ⟨U,0,none⟩ rfl hcs (fun y _=>Ii y) (fun _=>rfl) hsB (by simp only [ZA];have:=bY.out;omega) (by decide) ?_;intro v9 w9 S9;have hi9:((aI.map (dZ Y 214)).set j (.own bU Y 214 v9 (q.ls++[(⟨⟨t.no,t.at',t.src,⟨f.kind,f.text,f.num⟩⟩,Ai,t.ids.length,ci,some ⟨b7,o7,none⟩,t.aB.length,cf⟩:aj)])))[j]? =some (.own bU Y 214 v9 (q.ls++[(⟨⟨t.no,t.at',t.src,⟨f.kind,f.text,f.num⟩⟩,Ai,t.ids.length,ci,some ⟨b7,o7,none⟩,t.aB.length,cf⟩:aj)])):=ZY (by rw [ZW];exact bM e1.out);replace S9:Mem w w9 (.loc U #[.int .i64 t.no,.int .i64 t.at',.string t.src,.slice Ai t.ids.length ci,.slice (some ⟨b7,o7,none⟩) t.aB.length cf,.int .i64 f.kind,.string f.text,.int .i64 f.num] 214::.loc V (dI f) 176::(.loc TB (aS t Ai ci (some ⟨b7,o7,none⟩) cf) 58)::.aJ dH M (q0.map TS.kv)::(aI.map (dZ Y 214)).set j (.own bU Y 214 v9 (q.ls++[(⟨⟨t.no,t.at',t.src,⟨f.kind,f.text,f.num⟩⟩,Ai,t.ids.length,ci,some ⟨b7,o7,none⟩,t.aB.length,cf⟩:aj)]))):=S9;obtain ⟨A9,c9,e9⟩:=(S9.ow (j + 4) hi9).len;subst e9;replace S9:Mem w w9 (.loc U #[.int .i64 t.no,.int .i64 t.at',.string t.src,.slice Ai t.ids.length ci,.slice (some ⟨b7,o7,none⟩) t.aB.length cf,.int .i64 f.kind,.string f.text,.int .i64 f.num] 214::.loc V (dI f) 176::(.loc TB (aS t Ai ci (some ⟨b7,o7,none⟩) cf) 58)::.aJ dH M (q0.map TS.kv)::(aI.set j ⟨f.name,A9,c9,q.ls++[(⟨⟨t.no,t.at',t.src,⟨f.kind,f.text,f.num⟩⟩,Ai,t.ids.length,ci,some ⟨b7,o7,none⟩,t.aB.length,cf⟩:aj)]⟩).map (dZ Y 214)):=by rw [Zg];exact S9
       clear hcs hi9 T;go_wp2_with fail
       refine ⟨⟨S9.b,(by first | exact S9.lv 1 rfl | exact ⟨S9.lv 1 rfl,S9.lv 2 rfl⟩)⟩,?_⟩;refine gX rfl rfl (fun K9 hK9=>?_);refine S9.wP 3 rfl (T:=210) (E:=212) (by kernel_rfl) rfl _ _ _ rfl rfl f.name rfl (.slice A9 (q.ls++[(⟨⟨t.no,t.at',t.src,⟨f.kind,f.text,f.num⟩⟩,Ai,t.ids.length,ci,some ⟨b7,o7,none⟩,t.aB.length,cf⟩:aj)]).length c9) rfl ?_;intro w10 aZ;obtain ⟨u1,u2⟩:=e6.out ⟨f.name,A9,c9,q.ls++[(⟨⟨t.no,t.at',t.src,⟨f.kind,f.text,f.num⟩⟩,Ai,t.ids.length,ci,some ⟨b7,o7,none⟩,t.aB.length,cf⟩:aj)]⟩ rfl;replace aZ:Mem w w10 (.loc U #[.int .i64 t.no,.int .i64 t.at',.string t.src,.slice Ai t.ids.length ci,.slice (some ⟨b7,o7,none⟩) t.aB.length cf,.int .i64 f.kind,.string f.text,.int .i64 f.num] 214::.loc V (dI f) 176::(.loc TB (aS t Ai ci (some ⟨b7,o7,none⟩) cf) 58)::.aJ dH M ((aI.set j ⟨f.name,A9,c9,q.ls++[(⟨⟨t.no,t.at',t.src,⟨f.kind,f.text,f.num⟩⟩,Ai,t.ids.length,ci,some ⟨b7,o7,none⟩,t.aB.length,cf⟩:aj)]⟩).map TS.kv)::(aI.set j ⟨f.name,A9,c9,q.ls++[(⟨⟨t.no,t.at',t.src,⟨f.kind,f.text,f.num⟩⟩,Ai,t.ids.length,ci,some ⟨b7,o7,none⟩,t.aB.length,cf⟩:aj)]⟩).map (dZ Y 214)):=by rw [← u1];exact aZ
       have CG:Hid (kY (L++[(f.name,(⟨⟨t.no,t.at',t.src,⟨f.kind,f.text,f.num⟩⟩,Ai,t.ids.length,ci,some ⟨b7,o7,none⟩,t.aB.length,cf⟩:aj))]) (aI.set j ⟨f.name,A9,c9,q.ls++[(⟨⟨t.no,t.at',t.src,⟨f.kind,f.text,f.num⟩⟩,Ai,t.ids.length,ci,some ⟨b7,o7,none⟩,t.aB.length,cf⟩:aj)]⟩)):=HO.out.put rfl (by show q.ls++[(⟨⟨t.no,t.at',t.src,⟨f.kind,f.text,f.num⟩⟩,Ai,t.ids.length,ci,some ⟨b7,o7,none⟩,t.aB.length,cf⟩:aj)]=_;rw [← e5.out,HO.out.getD]) u2 e3.out ⟨q,e1.out,e2.out⟩;clear S9 u1 u2;go_wp2_with fail
       refine ⟨⟨aZ.b,(by first | exact aZ.lv 1 rfl | exact ⟨aZ.lv 1 rfl,aZ.lv 2 rfl⟩)⟩,?_⟩;refine rJ ?_;simp only [Exit.then];refine aF _ _ ?_;clear aF KK;go_wp2_with fail
       go_roundw
       case rel=>exact ⟨n + 1,aI.set j ⟨f.name,A9,c9,q.ls++[(⟨⟨t.no,t.at',t.src,⟨f.kind,f.text,f.num⟩⟩,Ai,t.ids.length,ci,some ⟨b7,o7,none⟩,t.aB.length,cf⟩:aj)]⟩,L++[(f.name,(⟨⟨t.no,t.at',t.src,⟨f.kind,f.text,f.num⟩⟩,Ai,t.ids.length,ci,some ⟨b7,o7,none⟩,t.aB.length,cf⟩:aj))],by omega,by go_num,CG,HL2,aZ.drop2⟩
       case measure=>simp [intOf];omega
    ·obtain rfl:n=t.aB.length:=by omega
     have HL2:Hid (jr L=(ts.take (k + 1)).flatMap (nI p.aC)):=by
      show _=_;rw [HL.out,ad7.out]
     clear HL;go_wp2_with fail
     go_roundw
     case rel=>exact ⟨k + 1,q0,L,by omega,by go_num,HO,HL2,S1.drop1⟩
     case measure=>simp [intOf];omega
  ·obtain rfl:k=ts.length:=by omega
   have HL2:Hid (jr L=zo ts p.aC):=by
    show _=_;rw [HL.out,Zp];rfl
   have HS:Hid (Mem wz wr [.aJ dH M (qs.map TS.kv),.qh qs]):=HT0.out.join S1.WQ;clear S1;go_wp2_with fail
   go_ret;exact ⟨M,qs,L,rfl,HO.out,HL2.out,HS.out⟩
end
section
open Go Go.RowKit Go.Sort Go.Shelf Go.MapKept
theorem WR:∀ l m:List UInt8,YC l m=if l < m then -1 else if l=m then 0 else 1
 | [],[]=>by simp [YC]
 | [],b::s=>by simp [YC]
 | a::r,[]=>by simp [YC]
 | a::r,b::s=>by
  unfold YC;by_cases h1:a < b
  ·rw [if_pos h1,if_pos (List.cons_lt_cons_iff.2 (.inl h1))]
  ·rw [if_neg h1];by_cases h2:b < a
   ·have hne:a≠b:=fun e=>by subst e;exact h1 h2
    rw [if_pos h2,if_neg (fun h=>?_),if_neg (fun e=>hne (List.cons.inj e).1)];rcases List.cons_lt_cons_iff.1 h with h | ⟨h,_⟩
    ·exact h1 h
    ·exact hne h
   ·have he:a=b:=by
     have h3:¬ a.toNat < b.toNat:=h1;have h4:¬ b.toNat < a.toNat:=h2;exact UInt8.toNat_inj.1 (by omega)
    subst he;rw [if_neg h2,WR r s];simp
theorem ad8 (a b:ByteArray):YC a.data.toList b.data.toList=eY a b:=by
 rw [WR];unfold eY;rw [bytesLess_eq,ByteArray.toList_eq,ByteArray.toList_eq];by_cases h1:a.data.toList < b.data.toList
 ·simp [h1]
 ·by_cases h2:a.data.toList=b.data.toList
  ·simp [h2]
  ·simp [h1,h2,show ¬ a.data=b.data from fun h=>h2 (by rw [h])]
theorem ad9 (a b:ByteArray)(w:World):Calls Tryz.prog 137 #[.string a,.string b] w fun e w'=>e=.returned (.int .i64 (eY a b))∧w=w' :=
 (Tryz.strings_Compare a b w).mono fun _ _ ⟨h1,h2⟩=>⟨by rw [h1,ad8],h2.symm⟩
theorem aea (a b:aQ)(w:World):Calls Tryz.prog 136 #[.agg (dI a),.agg (dI b)] w fun e w'=>e=.returned (.int .i64 (rO a b))∧Grew w w':=by
 obtain ⟨X,hX⟩:∃ X,X=w.heap.size:=⟨_,rfl⟩;have S1:=(Mem.start w).newAt (dI a) 176 X hX;have S:Mem w _ [.loc X (dI a) 176,.loc (X + 1) (dI b) 176]:=S1.newAt (dI b) 176 (X + 1) (by rw [hX,World.size_alloc]);have Hg:Hid (Grew w ((w.alloc (.cells (dI a) 176)).alloc (.cells (dI b) 176))):=((Grew.refl _).alloc _).alloc _;clear S1;go_enter Tryz.func136,Tryz.ntmps136
 go_upto_region 1 with fail
 rw [← hX];clear hX;generalize (w.alloc (.cells (dI a) 176)).alloc (.cells (dI b) 176)=w2 at *;have l0:=(S.lv 0 rfl).all;have l1:=(S.lv 1 rfl).all;have Hc:=Z9 (ad9 a.name b.name w2);go_wp2_with fail
 refine (Hc.out).mono ?_;rintro e _ ⟨rfl,rfl⟩;go_wp2_with fail
 go_ret;exact ⟨rfl,Hg.out⟩
theorem aeb {w0 w:World}{cs:List Chunk}(S:Mem w0 w cs)(i:Nat){B:Nat}{v:Value}{xs:List aQ}(hi:cs[i]? =some (.own bK B 176 v xs))(hl:xs.length≤1000000) :
  Calls Tryz.prog 120 #[v,.func (.func 136) #[] #[]] w (Ij bK rO w0 cs i B 176 v xs) :=
 haveI:Inhabited aQ:=⟨⟨⟨#[]⟩,0,⟨#[]⟩,0⟩⟩
 LM Ik (by decide) (fun _=>rfl) EX Tryz.laysSf120 Tryz.isAgg176 Tryz.sizeOf176 (fun _=>True) rO rO Il (fun _ _=>Iff.rfl) 136 (enters_of Tryz.func136 (by kernel_rfl) rfl) (fun a b _ _ w=>aea a b w) S i hi (fun _ _=>trivial) hl
theorem aec (a b k n:Int)(s t:ByteArray)(u v:Value)(hu:∃ A n c,u=.slice A n c)(hv:∃ A n c,v=.slice A n c)(w:World):(Instr.field 214 (.agg #[.int .i64 a,.int .i64 b,.string s,u,v,.int .i64 k,.string t,.int .i64 n]) 1).run Tryz.prog w=.ok (.agg #[.int .i64 k,.string t,.int .i64 n]) w:=by
 obtain ⟨A,n1,c,rfl⟩:=hu;obtain ⟨B,m,d,rfl⟩:=hv;have u48:=Tryz.underlying214;have a4:=Tryz.isAgg174;simp only [Instr.field,run_underlying u48,Sem.run_bind,Result.andThen_ok];go_simp;first | rfl | simp [asAgg]
def mM (r:aP)(nm:ByteArray)(x0:Tc)(r0:List Tc):Vt:=(Cm (pz r nm) (pF r nm) x0 r0).v
theorem aed {sv:ByteArray→Tc→List Tc→Vt}{L:List (ByteArray×aj)}{C:List (ByteArray×Tc)}{qs:List TS}{xs:List aQ}{dq:List (ByteArray×Value)}(hT:kY L qs)(hC:jr L=C)(hp:dq.Perm (qs.map TS.kv))(hx:xs=dq.map (fun p=>nK sv C p.1)):∃ m,nH sv C m∧m.length=xs.length:=by
 refine ⟨xs.mergeSort (fun a b=>decide (rO a b≤0)),P5 hT hC hp (by rw [← hx];exact List.mergeSort_perm _ _) ?_,List.length_mergeSort _⟩;have h:=List.pairwise_mergeSort (le:=fun a b:aQ=>decide (rO a b≤0)) (fun a b d h1 h2=>by
  simp only [decide_eq_true_eq] at *;exact Il.trans _ _ _ h1 h2) (fun a b=>by
  simp only [Ze,decide_eq_true_eq];have h1:=Il.anti a b;have h2:=Il.anti b a;omega) xs
 exact h.imp (fun h=>by simpa using h)
def VU (sv:ByteArray→Tc→List Tc→Vt)(C:List (ByteArray×Tc))(w:World)(e:Ending)(w':World):Prop :=
 ∃ (A:Option Addr) (c:Nat) (l:List aQ) (F:Int),e=.returned (.tuple #[.slice A l.length c,.int .i64 F])∧(∃ m,nH sv C m∧((30 < m.length∧F=2∧l=[])∨(m.length≤30∧F=0∧l=m)))∧Mem w w' [.sl bK A l]
theorem adK (r:aP)(K W S A:Option Addr)(ck cw cs c:Nat)(ts:List ak)(p:Psn)(At Ap:Option Addr)(ca cp:Nat)(w:World)(hR:kN (fun _=>False) w r K W S)(hT:Sl fU (fun _=>False) w A ts)(htl:ts.length≤2000)(hfl:∀ t∈ts,t.aB.length≤1000)(hpl:p.aC.length≤1000000)(hC:Sl ay (fun _=>False) w At p.aC)
  (hsl:r.aX.length≤30) (hss:∀ s∈r.aX,s.srcs.length≤1000000) (hsm:P6 (zo ts p.aC)) (hcl:(zo ts p.aC).length≤900000) (hU:Tabs w) :
  Calls Tryz.prog 65 #[.agg (aN r K ck W cw S cs),.slice A ts.length c,.agg (o8 p At ca Ap cp)] w (VU (mM r) (zo ts p.aC) w):=by
 have nD:=Z9 (fun w' (h:Below w.heap.size w w')=>ad6 A c ts p At Ap ca cp w' (hT.aK h) htl hfl hpl (hC.aK h));have PX:=Z9 (fun nm w' (h:Below w.heap.size w w')=>ad4 r K W S ck cw cs nm w' (hR.aK h) (by omega) hss);have HU:=Z9 (fun w' (h:Below w.heap.size w w')=>Utf8Tabs_below hU h);have Hsm:=Z9 hsm;obtain ⟨C,Io⟩:∃ C,zo ts p.aC=C:=⟨_,rfl⟩;rw [Io] at nD Hsm hcl ⊢;obtain ⟨sv,CJ⟩:∃ sv,mM r=sv:=⟨_,rfl⟩;rw [CJ];have P7:=Z9 CJ;obtain ⟨Y,hY⟩:∃ Y,Y=w.heap.size:=⟨_,rfl⟩;have T0:Mem w (w.alloc (.cells (aN r K ck W cw S cs) 29)) [.loc Y (aN r K ck W cw S cs) 29]:=(Mem.start w).newAt _ 29 Y hY;have T:Mem w ((w.alloc (.cells (aN r K ck W cw S cs) 29)).alloc (.cells (o8 p At ca Ap cp) 80)) [.loc Y (aN r K ck W cw S cs) 29,.loc (Y + 1) (o8 p At ca Ap cp) 80]:=T0.newAt _ 80 (Y + 1) (by rw [hY,World.size_alloc]);have Hb:=Z9 hY;clear hR hT hC hfl hss hsm Io CJ hU T0;go_enter Tryz.func65,Tryz.ntmps65
 go_upto_region 1 with fail
 rw [← hY];clear hY;generalize (w.alloc (.cells (aN r K ck W cw S cs) 29)).alloc (.cells (o8 p At ca Ap cp) 80)=w1 at *;obtain ⟨X,hX⟩:∃ X,X=Y + 1:=⟨_,rfl⟩;rw [← hX] at T ⊢;clear hX;have x0:=(T.lv 1 rfl).all;go_wp2_with fail
 refine (nD.out w1 T.b).mono ?_;rintro e w2 ⟨M,qs,L,rfl,hTL,hLC,M2⟩;have S2:Mem w w2 [.loc Y (aN r K ck W cw S cs) 29,.aJ dH M (qs.map TS.kv),.qh qs]:=(T.join M2).del 1;have P8:=Qa hTL;have jG:qs.length≤900000:=by
  have h1:=congrArg Zf hLC;unfold jr at h1;rw [ZW] at h1;omega
 have xY:=Z9 hTL;have uG:=Z9 hLC;obtain ⟨es,clock,hE,S3⟩:=S2.WS 1 rfl;have HE:=Z9 hE;obtain ⟨hrg,S4⟩:=S3.Qb (S3.LP 1 rfl) (T:=210) (k:=9) (e:=212) (by kernel_rfl);obtain ⟨Zr,Ip⟩:∃ Zr,Zr=w2.heap.size:=⟨_,rfl⟩;rw [← Ip] at hrg S4;have S5:Mem w (w2.alloc (.mapIter (some M) clock #[] clock)) [.own bK Y 176 (.slice none 0 0) [],.loc Y (aN r K ck W cw S cs) 29,.xZ M es clock,.qh qs,.iter Zr M clock #[] clock]:=(S4.nil bK Y 176).front;clear T M2 S2 S3 S4 Ip hE hTL hLC P8 nD x0;go_wp2_with fail
 clear hrg;generalize w2.alloc (.mapIter (some M) clock #[] clock)=w4 at *;have HR0:Hid (gY dH es clock #[] (qs.map TS.kv) [] (qs.map TS.kv)):=gY.start HE.out;go_loopw [8] (fun v wr=>∃ (seen:Array Nat) (dq left:List (ByteArray×Value)) (xs:List aQ) (A8:Option Addr) (c8:Nat),v=.slice A8 xs.length c8∧Hid (gY dH es clock seen (qs.map TS.kv) dq left)∧Hid (xs=dq.map (fun p=>nK sv C p.1))∧Mem w wr [.own bK Y 176 (.slice A8 xs.length c8) xs,.loc Y (aN r K ck W cw S cs) 29,.xZ M es clock,.qh qs,.iter Zr M clock seen clock]) (fun _ wr=>wQ es Zr wr)
 case atStart=>exact ⟨#[],[],qs.map TS.kv,[],none,0,rfl,HR0,rfl,S5⟩
 case round =>
  clear S5 HR0;obtain ⟨seen,dq,left,xs,A8,c8,rfl,mP,Hxs,S3⟩:=hrel;have hsz3:Hid (wQ es Zr wr=left.length):=S3.uH 4 rfl mP.out;have hxl:xs.length≤900000:=by
   have h1:=mP.out.perm.length_eq;have h2:=congrArg Zf Hxs.out;rw [ZW] at h2;rw [Z4,ZW] at h1;omega
  rcases S3.LQ 4 (S3.LP 2 rfl) rfl (Z5 _) mP.out with ⟨hl0,hp0,hnx⟩ | ⟨pq,left',seen',w5,hpm,hll,hrg,hnx,hen,S5⟩
  ·have S6:Mem w wr [.own bK Y 176 (.slice A8 xs.length c8) xs]:=(((S3.del 4).del 3).del 2).del 1;have uI:=Z9 hp0;clear hp0 hl0 S3 hsz3;have Hex:Hid (∃ m,nH sv C m∧m.length=xs.length):=aed xY.out uG.out uI.out Hxs.out;by_cases hlen:30 < xs.length
   ·have Hw:Hid (Mem w wr [.sl bK none []]):=(S6.del 0).call (ZX _ _) _ Sl.nil (fun k e=>by cases e);clear S6;go_wp2_with fail
    obtain ⟨m,hm,hml⟩:=Hex.out;exact bodyPost_ret (wF rfl rfl rfl) rfl ⟨none,0,[],2,rfl,⟨m,hm,.inl ⟨by omega,rfl,rfl⟩⟩,Hw.out⟩
   ·have Iq:=Z9 (aeb S6 0 rfl (by omega));clear S6;go_wp2_with fail
    refine (Iq.out).mono ?_;rintro e w6 ⟨rfl,ys,hperm,hord,S7⟩;have HI:Hid (nH sv C ys):=P5 xY.out uG.out uI.out (by rw [← Hxs.out];exact hperm) hord;have hyl:=hperm.length_eq;obtain ⟨A9,c9,e9,S8⟩:=S7.cO 0 rfl;have CO:=Z9 S8;have Qc:=Z9 e9;clear Iq hperm hord S7 S8 e9;go_wp2_with fail
    refine bodyPost_ret (wF rfl rfl rfl) rfl ⟨A9,c9,ys,0,?_,⟨ys,HI.out,.inr ⟨by omega,rfl,rfl⟩⟩,CO.out⟩;rw [← Qc.out];rfl
  ·obtain ⟨q,hqm,hqe⟩:=List.mem_map.1 (mP.out.perm.mem_iff.1 (List.mem_append_right _ hpm));obtain ⟨nm,val⟩:=pq;unfold TS.kv at hqe;simp only [Prod.mk.injEq] at hqe;obtain ⟨wR,rfl⟩:=hqe;have hgl:aT nm (qs.map TS.kl)=some q.ls:=by
    obtain ⟨j,hj⟩:=List.mem_iff_getElem?.1 hqm;exact (kR (L:=qs.map TS.kl) (j:=j) (k:=nm) (v:=q.ls) (by rw [x9];exact xY.out.nd) (by rw [ZT,hj,← wR];rfl)).1
   have rP:q.ls=sel nm L∧sel nm L≠[]:=by
    have h1:=xY.out.is nm;rw [hgl] at h1;split at h1
    ·cases h1
    ·rename_i h2;exact ⟨Option.some.inj h1,h2⟩
   obtain ⟨x0,r0,hx0⟩:∃ x0 r0,q.ls=x0::r0:=by
    cases h:q.ls with
    | nil=>exact absurd (rP.1.symm.trans h) rP.2
    | cons a b=>exact ⟨a,b,rfl⟩
   have hcore:selC nm C=x0.q::r0.map aj.q:=by
    have h1:(sel nm L).map aj.q=selC nm C:=by rw [Qd,← uG.out];rfl
    rw [← h1,← rP.1,hx0];rfl
   have kE:Hid (∀ a∈x0::r0,a.q.v.t.size≤1000000∧-4611686018427387904≤a.q.v.n∧a.q.v.n≤4611686018427387904):=fun a ha=>by
    have h1:a∈sel nm L:=by rw [← rP.1,hx0];exact ha
    have h2:=WT h1;rw [uG.out] at h2;exact Hsm.out _ h2
   have Ir:(x0::r0).length≤1000000:=by
    rw [← hx0,rP.1];have h1:=LK nm L;have h2:=congrArg Zf uG.out;unfold jr at h2;rw [ZW] at h2;omega
   have Qe:=Z9 Ir;obtain ⟨n5,zF⟩:∃ n5,q.ls.length=n5:=⟨_,rfl⟩;obtain ⟨A5,CP⟩:∃ A5,q.A=A5:=⟨_,rfl⟩;obtain ⟨c5,hc5⟩:∃ c5,q.c=c5:=⟨_,rfl⟩;have Qg:Hid (n5=(x0::r0).length):=by show _=_;rw [← zF,hx0]
   have qK:Hid (Sl bU (fun _=>False) w5 A5 (x0::r0)):=by
    have h1:LU _ w5 qs:=S5.ok (.qh qs) (.tail _ (.tail _ (.tail _ (.head _))));have h2:=(h1 q hqm).1;rw [hx0,CP] at h2;exact h2.mono (fun _ _ h=>h.elim)
   have aee:Hid (n5≤c5):=by
    have h1:LU _ w5 qs:=S5.ok (.qh qs) (.tail _ (.tail _ (.tail _ (.head _))));have h2:=(h1 q hqm).2;rw [zF,hc5] at h2;exact h2
   have oh:Hid (nK sv C nm=⟨nm,(mM r nm x0.q (r0.map aj.q)).k,(mM r nm x0.q (r0.map aj.q)).t,(mM r nm x0.q (r0.map aj.q)).n⟩):=by
    show _=_;unfold nK;rw [hcore,← P7.out]
   have kS:=Z9 hrg;have Hll:=Z9 hll;rw [zF,CP,hc5] at hnx hen kS;have hnx2:∀ ty,(Instr.next (.pointer (some ⟨Zr,0,none⟩)) false ty).run Tryz.prog wr=.ok (.tuple #[.bool true,.string nm,.slice A5 n5 c5]) w5:=hnx;have CQ:(Instr.entry (.pointer (some ⟨Zr,0,none⟩))).run Tryz.prog w5=.ok (.tuple #[.string nm,.slice A5 n5 c5]) w5:=hen;unfold mM at oh;obtain ⟨V,hV⟩:∃ V,(Cm (pz r nm) (pF r nm) x0.q (r0.map aj.q)).v=V:=⟨_,rfl⟩;rw [hV] at oh;have HV:=Z9 hV;have rM:Hid (xs++[(⟨nm,V.k,V.t,V.n⟩:aQ)]=(dq++[(nm,Value.slice A5 n5 c5)]).map (fun p=>nK sv C p.1)):=by
    show _=_;rw [ZP,← Hxs.out,Zt,List.map_nil,oh.out]
   have y0:=(S5.lv 1 rfl).all;clear hnx hen S3 hpm hll hrg hqm wR hgl rP hx0 hcore Ir zF CP hc5 hV;go_wp2_with fail
   clear hnx2 CQ;refine (PX.out nm w5 S5.b).mono ?_;rintro e w6 ⟨s,As,cA,rfl,hs1,hs2,hs3,hs4,uF⟩;have S6:=S5.below uF;have WU:=Z9 (adY (fun _=>False) (fun _=>False) s As cA A5 x0 r0 n5 c5 w6 hs4 hs3 (qK.out.aK uF) Qg.out aee.out Qe.out kE.out (HU.out w6 S6.b));have zG:=Z9 hs1;have pG:=Z9 hs2;clear S5 uF y0 hs4 hs1 hs2;go_wp2_with fail
   refine (WU.out).mono ?_;rintro e w8 ⟨⟨g,hg,rfl⟩,eG⟩;have hfd:=aec g.q.no g.q.at' g.q.v.k g.q.v.n g.q.src g.q.v.t (.slice g.A g.n g.c) (.slice g.B g.m g.d) ⟨_,_,_,rfl⟩ ⟨_,_,_,rfl⟩;have WV:g.q.v=V:=by
    rw [hg,zG.out,pG.out];exact HV.out
   have S8:=S6.below eG;have hsz:Y≤w8.heap.size:=by rw [Hb.out];exact S8.b.size
   have tK:=Z9 S8;have HgV:=Z9 WV;clear S6 S8 eG WU hg WV;go_wp2_with (at_builtin;refine tK.out.app 0 rfl LW rfl _ _ rfl ⟨nm,g.q.v.k,g.q.v.t,g.q.v.n⟩ 1 rfl rfl rfl (EX ⟨nm,g.q.v.k,g.q.v.t,g.q.v.n⟩) hsz (by omega) (by decide) ?_;intro v' w7 S7)
   rw [HgV.out] at S7;obtain ⟨A7,c7,e7⟩:=(S7.ow 0 rfl).len;subst e7;replace S7:Mem w w7 [.own bK Y 176 (.slice A7 (xs++[(⟨nm,V.k,V.t,V.n⟩:aQ)]).length c7) (xs++[(⟨nm,V.k,V.t,V.n⟩:aQ)]),.loc Y (aN r K ck W cw S cs) 29,.xZ M es clock,.qh qs,.iter Zr M clock seen' clock]:=S7;go_roundw
   case rel=>exact ⟨seen',_,left',_,A7,c7,rfl,kS,rM,S7⟩
   case measure=>rw [hsz3.out,S7.uH 4 rfl kS.out];have:=Hll.out;omega
end
section
open Go Go.RowKit
def Lm (sv uJ:ByteArray→Tc→List Tc→Vt)(ts:List ak)(at':List Nat):Prop:=∀ nm x0 r0,selC nm (fH ts at')=x0::r0→sv nm x0 r0=uJ nm x0 r0
end
section
open Go Go.RowKit
structure BO (ts:List ak):Prop where
 fl:∀ t∈ts,t.aB.length≤1000
 sm:∀ t∈ts,∀ f∈t.aB,f.text.size≤1000000∧-4611686018427387904≤f.num∧f.num≤4611686018427387904
theorem BO.VW {ts:List ak}(h:BO ts)(at':List Nat):P6 (fH ts at'):=fun p hp=>by
 unfold fH at hp;obtain ⟨i,_,hi⟩:=List.mem_flatMap.1 hp;cases ht:ts[i]? with
 | none=>rw [ht] at hi;cases hi
 | some t =>
  rw [ht] at hi;have hi2:p∈wM t:=hi;unfold wM at hi2;obtain ⟨f,hf,rfl⟩:=List.mem_map.1 hi2;exact h.sm t (Z7 ht) f hf
end
end Go.Proofs.YtmkkppknaikjjaaGreatDoor
