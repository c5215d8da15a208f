/- Several texts in one: TelR, RRec, OwnAt, RecT. -/
import Derived.Test.YtfdcgedcfafmcaaGreatDoorPackS
import Derived.Test.YtfdcgedcfafmcaaGreatDoorPackC
import Derived.Test.YtfdcgedcfafmcaaGreatDoorPackX
import Derived.Test.YtfdcgedcfafmcaaGreatDoorPack1
import Derived.Test.YtfdcgedcfafmcaaGreatDoorShelf
import Derived.Test.YtfdcgedcfafmcaaGreatDoorPackO
import Derived.Test.YtfdcgedcfafmcaaGreatDoorPackW
import Derived.Test.YtfdcgedcfafmcaaGreatDoorPackF
/- handref2.tellings: what the touches of a person tell, by names. -/
namespace Go.Proofs.YtfdcgedcfafmcaaGreatDoor
section
open Go Go.RowKit
def tellF (tch:List Int)(t:Tch):List (ByteArray×Tc):=if tch.contains t.no=true then tellT t else []
def tellR (ts:List Tch)(tch:List Int):List (ByteArray×Tc):=ts.flatMap (tellF tch)
theorem tellR_snoc {ts:List Tch}{tch:List Int}{k:Nat}{t:Tch}(h:ts[k]? =some t):(ts.take (k + 1)).flatMap (tellF tch)=(ts.take k).flatMap (tellF tch)++tellF tch t:=by
 rw [take_snoc h,List.flatMap_append,List.flatMap_singleton]
theorem tellR_len {tch:List Int}:∀ (ts:List Tch),(∀ t∈ts,t.flds.length≤1000)→(ts.flatMap (tellF tch)).length≤1000 * ts.length
 | [],_=>Nat.zero_le _
 | t::r,h=>by
  rw [List.flatMap_cons,List.length_append,List.length_cons];have h1:=tellR_len (tch:=tch) r (fun x hx=>h x (List.mem_cons_of_mem _ hx));have h2:(tellF tch t).length≤1000:=by
   unfold tellF tellT;split
   ·rw [List.length_map];exact h t (List.mem_cons_self ..)
   ·exact Nat.zero_le _
  omega
set_option maxHeartbeats 8000000 in
set_option maxRecDepth 100000 in
theorem refTellings_any (A:Option Addr)(c:Nat)(ts:List Tch)(p:Psn)(At Ap:Option Addr)(ca cp:Nat)(wz:World)(hT:Sl rTch (fun _=>False) wz A ts)(htl:ts.length≤2000)(hfl:∀ t∈ts,t.flds.length≤1000)(hpl:p.tch.length≤1000000)(hC:Sl rInt (fun _=>False) wz At p.tch) :
  Calls Tryz.prog 65 #[.slice A ts.length c,.agg (psCs p At ca Ap cp)] wz (GivesTel (tellR ts p.tch) wz):=by
 have Hfl:=Lib.hid hfl;have hmm:=@run_makeMap Tryz.prog;obtain ⟨P9,hP9⟩:∃ P9,P9=wz.heap.size:=⟨_,rfl⟩;have T0:Mem wz (wz.alloc (.cells (psCs p At ca Ap cp) 98)) [.loc P9 (psCs p At ca Ap cp) 98]:=(Mem.start wz).newAt _ 98 P9 hP9;have HT0:=Lib.hid (T0.del 0);have HT1:=Lib.hid (hT.keepB T0.b);have HC1:=Lib.hid (hC.keepB T0.b);have Hlv:=Lib.hid (T0.lv 0 rfl);clear hC hfl hT T0
 go_enter Tryz.func65,Tryz.ntmps65
 go_upto_region 1 with fail
 rw [← hP9];clear hP9;generalize wz.alloc (.cells (psCs p At ca Ap cp) 98)=w at *;have HT:=Lib.hid (fun w' (h:Below w.heap.size w w')=>HT1.out.keepB h);have HCn:=Lib.hid (fun w' (z:Int) (h:Below w.heap.size w w')=>containsInt_any (fun _=>False) At p.tch ca p.tch.length z w' (HC1.out.keepB h) (Nat.le_refl _) hpl);have HP:=Lib.hid (fun w' (h:Below w.heap.size w w')=>LV.kb3 Hlv.out h Hlv.out.lt);clear HT1 HC1 Hlv;obtain ⟨Y,hY⟩:∃ Y,Y=w.heap.size:=⟨_,rfl⟩;have Hb:=Lib.hid hY;obtain ⟨M,hM⟩:∃ M,M=w.heap.size:=⟨_,rfl⟩;have T1:Mem w (w.alloc (.map #[] 0)) ([.mapG keyStr M (([]:List TS).map TS.kv)]++([]:List TS).map (tsq Y 128)):=(Mem.start w).newMapG keyStr M hM;clear hY
 go_upto_region 2 with fail
 rw [← hM];clear hM hmm;generalize w.alloc (.map #[] 0)=w2 at *
 go_wp2_with fail
 go_loopw [13] (fun ix wr=>∃ (k:Nat) (qs:List TS) (L:List (ByteArray×Tld)),k≤ts.length∧ix=.int .i64 k∧Hid (TelOk L qs)∧Hid (coreL L=(ts.take k).flatMap (tellF p.tch))∧Mem w wr ([.mapG keyStr M (qs.map TS.kv)]++qs.map (tsq Y 128))) (fun ix _=>ts.length - (intOf ix).toNat)
 case atStart=>exact ⟨0,[],[],Nat.zero_le _,rfl,TelOk.start,rfl,T1⟩
 case round =>
  clear T1;obtain ⟨k,qs,L,hk,rfl,HO,HL,S1⟩:=hrel;by_cases hlt:k < ts.length
  ·obtain ⟨t,ht⟩:∃ t,ts[k]? =some t:=⟨_,List.getElem?_eq_getElem hlt⟩;obtain ⟨bt,ot,Ai,ci,Af,cf,rfl,hbt,t0,t1,t2,t3,t4,_,hsf0⟩:=(HT.out w (Below.refl _ _)).tch k t ht;have hcl:=fun (p:Addr) (hp:p.block < w.heap.size)=>S1.b.cell hp;rw [← hcl _ hbt] at t0 t1 t2 t3 t4;clear hcl;have HF:=Lib.hid (fun w' (h:Below w.heap.size w w')=>hsf0.keepB h);have hfl:t.flds.length≤1000:=Hfl.out t (List.mem_of_getElem? ht);have Hsn:=Lib.hid (tellR_snoc (tch:=p.tch) ht);have Hlen:Hid (((ts.take k).flatMap (tellF p.tch)).length + t.flds.length≤2001000):=by
    show _≤_;have h1:=tellR_len (tch:=p.tch) (ts.take k) (fun x hx=>Hfl.out x (List.mem_of_mem_take hx));rw [List.length_take] at h1;omega
   obtain ⟨TB,hTB⟩:∃ TB,TB=wr.heap.size:=⟨_,rfl⟩;have S2:Mem w (wr.alloc (.cells (tcCs t Ai ci Af cf) 85)) (.loc TB (tcCs t Ai ci Af cf) 85::([.mapG keyStr M (qs.map TS.kv)]++qs.map (tsq Y 128))):=(S1.newAt (tcCs t Ai ci Af cf) 85 TB hTB).front;clear hsf0 ht
   go_upto_region 5 with fail
   rw [← hTB];clear hTB S1 t0 t1 t2 t3 t4;generalize wr.alloc (.cells (tcCs t Ai ci Af cf) 85)=w3 at *;obtain ⟨bc,hbc⟩:∃ bc,(p.tch.take p.tch.length).contains t.no=bc:=⟨_,rfl⟩;have Hcn:=Lib.hid (fun w' (h:Below w.heap.size w w')=>HCn.out w' t.no h);rw [hbc] at Hcn;have Hsn2:Hid ((ts.take (k + 1)).flatMap (tellF p.tch)=(ts.take k).flatMap (tellF p.tch)++(if bc=true then (t.flds.take t.flds.length).map (tcOf t) else [])):=by
    show _=_;rw [Hsn.out,List.take_length,← hbc,List.take_length];rfl
   have l0:=(S2.lv 0 rfl).all;clear hbc Hsn
   go_wp2_with fail
   clear l0
   go_loopw [20] (fun ix wr=>∃ (n:Nat) (qs:List TS) (L:List (ByteArray×Tld)),n≤t.flds.length∧ix=.int .i64 n∧Hid (TelOk L qs)∧Hid (coreL L=(ts.take k).flatMap (tellF p.tch)++(if bc=true then (t.flds.take n).map (tcOf t) else []))∧Mem w wr (.loc TB (tcCs t Ai ci Af cf) 85::([.mapG keyStr M (qs.map TS.kv)]++qs.map (tsq Y 128)))) (fun ix _=>t.flds.length - (intOf ix).toNat)
   case atStart=>exact ⟨0,qs,L,Nat.zero_le _,rfl,HO,(by show _=_;rw [HL.out];cases bc <;> simp),S2⟩
   case round =>
    clear S2 HO HL;obtain ⟨n,q0,L,hn,rfl,HO,HL,S1⟩:=hrel;by_cases hlt2:n < t.flds.length
    ·obtain ⟨f,hf⟩:∃ f,t.flds[n]? =some f:=⟨_,List.getElem?_eq_getElem hlt2⟩;obtain ⟨b7,o7,rfl,hb7,f0,f1,f2,f3⟩:=(HF.out wr S1.b).fld n f hf;have Hts:=Lib.hid (tell_snoc hf);have Hql0:Hid (L.length≤2001000):=by
      have h1:=congrArg List.length HL.out;unfold coreL at h1;have h2:(if bc=true then (t.flds.take n).map (tcOf t) else []).length≤t.flds.length:=by
       split
       ·rw [List.length_map,List.length_take];omega
       ·exact Nat.zero_le _
      rw [List.length_map,List.length_append] at h1;have:=Hlen.out
      show _≤_;omega
     clear hf;obtain ⟨V,hV⟩:∃ V,V=wr.heap.size:=⟨_,rfl⟩;have S2:Mem w (wr.alloc (.cells (fdCs f) 59)) (.loc V (fdCs f) 59::(.loc TB (tcCs t Ai ci (some ⟨b7,o7,none⟩) cf) 85::([.mapG keyStr M (q0.map TS.kv)]++q0.map (tsq Y 128)))):=(S1.newAt (fdCs f) 59 V hV).front
     go_upto_region 8 with fail
     rw [← hV];clear hV S1 f0 f1 f2 f3;generalize wr.alloc (.cells (fdCs f) 59)=w4 at *;have l1:=(S2.lv 1 rfl).all;have p0:=(HP.out w4 S2.b).all
     go_wp2_with fail
     ((with_reducible refine (Hcn.out w4 S2.b).mono ?_);rintro e _ ⟨rfl,rfl⟩)
     clear l1 p0;cases bc
     ·have HL2:Hid (coreL L=(ts.take k).flatMap (tellF p.tch)++(if false=true then (t.flds.take (n + 1)).map (tcOf t) else [])):=HL.out;clear HL
      go_wp2_with fail
      go_roundw
      case rel=>exact ⟨n + 1,q0,L,by omega,by go_num,HO,HL2,S2.drop1⟩
      case measure=>simp [intOf];omega
     ·have HL2:Hid (coreL (L++[(f.name,(⟨⟨t.no,t.at',t.src,⟨f.kind,f.text,f.num⟩⟩,Ai,t.ids.length,ci,some ⟨b7,o7,none⟩,t.flds.length,cf⟩:Tld))])=(ts.take k).flatMap (tellF p.tch)++(if true=true then (t.flds.take (n + 1)).map (tcOf t) else [])):=by
       show _=_;rw [coreL_snoc,HL.out,if_pos rfl,if_pos rfl,Hts.out,List.append_assoc];rfl
      go_wp2_with fail
      obtain ⟨qs1,j,q,e1,e2,e3,e4,e5,e6,e7⟩:=ts_step q0 HO.out.nd f.name;have T:=e7 Y 128 w w4 (.loc V (fdCs f) 59::(.loc TB (tcCs t Ai ci (some ⟨b7,o7,none⟩) cf) 85)::[.mapG keyStr M (q0.map TS.kv)]) S2;replace T:Mem w w4 (.loc V (fdCs f) 59::(.loc TB (tcCs t Ai ci (some ⟨b7,o7,none⟩) cf) 85)::.mapG keyStr M (q0.map TS.kv)::qs1.map (tsq Y 128)):=T;have Hql:Hid (q.ls.length≤2001000):=by
       show _≤_;rw [← e5,HO.out.getD];exact Nat.le_trans (sel_le _ _) Hql0.out
      have e1:=Lib.hid e1;have e2:=Lib.hid e2;have e3:=Lib.hid e3;have e4:=Lib.hid e4;have e5:=Lib.hid e5;have e6:=Lib.hid e6;clear S2 e7;refine wp_region_mixT [] (fun w'=>Below w.heap.size w w'∧LV w' V (fdCs f) 59∧LV w' TB (tcCs t Ai ci (some ⟨b7,o7,none⟩) cf) 85) (.p 0 (.p 1 (.q 2 (.p 3 (.p 4 (.q 5 (.q 7 (.p 8 (.q 9 (.p 10 (.e2 6 (.e 11 (.e 12 (.e 13 .z))) 11 (.e 6 (.e 12 (.e 13 .z)))))))))))))) (by kernel_rfl) (by kernel_rfl) (fun w' hd=>⟨(T.below (hd.below _)).b,(T.below (hd.below _)).lv 0 rfl,(T.below (hd.below _)).lv 1 rfl⟩) (fun KK hKK wd hd=>?_);replace T:=T.below (hd.below _);clear hd
      repeat ((first | refine mixT_pp rfl (fun K hK=>?_) | refine mixT_p rfl (fun K hK=>?_));go_simp;(try go_bits);(try simp (disch:=omega) only [if_pos]);(try simp (disch:=omega) only [if_neg]);(try simp (disch:=omega) only [dif_pos]);(try simp (disch:=omega) only [dif_neg]);(try go_simp);(refine hK _ ?_;clear hK K))
      refine mixT_loadR (.string f.name) rfl rfl rfl rfl (fun w' h=>loadC rfl (h.2.1.cell 0 _ rfl)) ?_
      repeat ((first | refine mixT_pp rfl (fun K hK=>?_) | refine mixT_p rfl (fun K hK=>?_));go_simp;(try go_bits);(try simp (disch:=omega) only [if_pos]);(try simp (disch:=omega) only [if_neg]);(try simp (disch:=omega) only [dif_pos]);(try simp (disch:=omega) only [dif_neg]);(try go_simp);(refine hK _ ?_;clear hK K))
      refine mixT_loadR (.string f.name) rfl rfl rfl rfl (fun w' h=>loadC rfl (h.2.1.cell 0 _ rfl)) ?_;refine mixT_loadR (.agg (tcCs t Ai ci (some ⟨b7,o7,none⟩) cf)) rfl rfl rfl rfl (fun w' h=>loadAtT5 (h.2.2.cell 0 _ rfl) (h.2.2.cell 1 _ rfl) (h.2.2.cell 2 _ rfl) (h.2.2.cell 3 _ rfl) (h.2.2.cell 4 _ rfl) ⟨_,_,_,rfl⟩ ⟨_,_,_,rfl⟩) ?_
      repeat ((first | refine mixT_pp rfl (fun K hK=>?_) | refine mixT_p rfl (fun K hK=>?_));go_simp;(try go_bits);(try simp (disch:=omega) only [if_pos]);(try simp (disch:=omega) only [if_neg]);(try simp (disch:=omega) only [dif_pos]);(try simp (disch:=omega) only [dif_neg]);(try go_simp);(refine hK _ ?_;clear hK K))
      refine mixT_loadR (.agg #[.int .i64 f.kind,.string f.text,.int .i64 f.num]) rfl rfl rfl rfl (fun w' h=>loadAtV3 (h.2.1.cell 1 _ rfl) (h.2.1.cell 2 _ rfl) (h.2.1.cell 3 _ rfl)) ?_
      repeat ((first | refine mixT_pp rfl (fun K hK=>?_) | refine mixT_p rfl (fun K hK=>?_));go_simp;(try go_bits);(try simp (disch:=omega) only [if_pos]);(try simp (disch:=omega) only [if_neg]);(try simp (disch:=omega) only [dif_pos]);(try simp (disch:=omega) only [dif_neg]);(try go_simp);(refine hK _ ?_;clear hK K))
      refine mixT_2 (mixT_one rfl rfl (fun K9 hK9=>?_)) (mixT_one rfl rfl (fun K9 hK9=>?_))
      ·have hlk:=look_g (K:=keyStr) (T:=125) (E:=124) (T.ok (.mapG keyStr M (q0.map TS.kv)) (by simp):MapG keyStr wd M (q0.map TS.kv)) (by kernel_rfl) (zeroSlR wd) f.name false;rw [if_neg (by decide),e4.out] at hlk;replace hlk:(Instr.lookup 125 (.map (some M)) (.string f.name) false).run Tryz.prog wd=.ok (.slice q.A q.ls.length q.c) wd:=hlk
       go_wp2_with fail
       refine ⟨⟨T.b,(by first | exact T.lv 0 rfl | exact ⟨T.lv 0 rfl,T.lv (0 + 1) rfl⟩)⟩,?_⟩;clear hlk;refine mixT_l rfl rfl (fun K9 hK9=>?_)
       go_wp2_with fail
       obtain ⟨U,hU⟩:∃ U,U=(wd).heap.size:=⟨_,rfl⟩;replace T:Mem w ((wd).alloc (.cells #[.int .i64 t.no,.int .i64 t.at',.string t.src,.slice Ai t.ids.length ci,.slice (some ⟨b7,o7,none⟩) t.flds.length cf,.int .i64 f.kind,.string f.text,.int .i64 f.num] 128)) (.loc U #[.int .i64 t.no,.int .i64 t.at',.string t.src,.slice Ai t.ids.length ci,.slice (some ⟨b7,o7,none⟩) t.flds.length cf,.int .i64 f.kind,.string f.text,.int .i64 f.num] 128::.loc V (fdCs f) 59::(.loc TB (tcCs t Ai ci (some ⟨b7,o7,none⟩) cf) 85)::.mapG keyStr M (q0.map TS.kv)::qs1.map (tsq Y 128)):=(T.newAt _ 128 U hU).front;rw [← hU];clear hU;generalize (wd).alloc (.cells #[.int .i64 t.no,.int .i64 t.at',.string t.src,.slice Ai t.ids.length ci,.slice (some ⟨b7,o7,none⟩) t.flds.length cf,.int .i64 f.kind,.string f.text,.int .i64 f.num] 128)=we at *;refine ⟨⟨T.b,(by first | exact T.lv 1 rfl | exact ⟨T.lv 1 rfl,T.lv 2 rfl⟩)⟩,?_⟩;have hcs:∀ (j:Nat) (u:Value),([(⟨⟨t.no,t.at',t.src,⟨f.kind,f.text,f.num⟩⟩,Ai,t.ids.length,ci,some ⟨b7,o7,none⟩,t.flds.length,cf⟩:Tld)].map Tld.cells).flatten[j]? =some u→(we).cell? ((⟨U,0,none⟩:Addr).add j)=some u:=fun j u hu=>by
        have h0:=(T.lv 0 rfl).cell j u (by simpa [Tld.cells] using hu);rw [add_at,Nat.zero_add];exact h0
       have hsB:Y≤(we).heap.size:=by rw [Hb.out];exact T.b.size
       refine mixT_l rfl rfl (fun K9 hK9=>?_);refine T.appN flatTld (j + 4) (by show (qs1.map (tsq Y 128))[j]? =_;rw [List.getElem?_map,e1.out];rfl) tyTlr rfl _ _ rfl [(⟨⟨t.no,t.at',t.src,⟨f.kind,f.text,f.num⟩⟩,Ai,t.ids.length,ci,some ⟨b7,o7,none⟩,t.flds.length,cf⟩:Tld)] 1 1 rfl rfl ⟨U,0,none⟩ rfl hcs (fun y _=>oneTld y) (fun _=>rfl) hsB (by simp only [List.length_singleton];have:=Hql.out;omega) (by decide) ?_;intro v9 w9 S9;have hi9:((qs1.map (tsq Y 128)).set j (.own rTld Y 128 v9 (q.ls++[(⟨⟨t.no,t.at',t.src,⟨f.kind,f.text,f.num⟩⟩,Ai,t.ids.length,ci,some ⟨b7,o7,none⟩,t.flds.length,cf⟩:Tld)])))[j]? =some (.own rTld Y 128 v9 (q.ls++[(⟨⟨t.no,t.at',t.src,⟨f.kind,f.text,f.num⟩⟩,Ai,t.ids.length,ci,some ⟨b7,o7,none⟩,t.flds.length,cf⟩:Tld)])):=List.getElem?_set_self (by rw [List.length_map];exact lt_of_get e1.out);replace S9:Mem w w9 (.loc U #[.int .i64 t.no,.int .i64 t.at',.string t.src,.slice Ai t.ids.length ci,.slice (some ⟨b7,o7,none⟩) t.flds.length cf,.int .i64 f.kind,.string f.text,.int .i64 f.num] 128::.loc V (fdCs f) 59::(.loc TB (tcCs t Ai ci (some ⟨b7,o7,none⟩) cf) 85)::.mapG keyStr M (q0.map TS.kv)::(qs1.map (tsq Y 128)).set j (.own rTld Y 128 v9 (q.ls++[(⟨⟨t.no,t.at',t.src,⟨f.kind,f.text,f.num⟩⟩,Ai,t.ids.length,ci,some ⟨b7,o7,none⟩,t.flds.length,cf⟩:Tld)]))):=S9;obtain ⟨A9,c9,e9⟩:=(S9.ow (j + 4) hi9).len;subst e9;replace S9:Mem w w9 (.loc U #[.int .i64 t.no,.int .i64 t.at',.string t.src,.slice Ai t.ids.length ci,.slice (some ⟨b7,o7,none⟩) t.flds.length cf,.int .i64 f.kind,.string f.text,.int .i64 f.num] 128::.loc V (fdCs f) 59::(.loc TB (tcCs t Ai ci (some ⟨b7,o7,none⟩) cf) 85)::.mapG keyStr M (q0.map TS.kv)::(qs1.set j ⟨f.name,A9,c9,q.ls++[(⟨⟨t.no,t.at',t.src,⟨f.kind,f.text,f.num⟩⟩,Ai,t.ids.length,ci,some ⟨b7,o7,none⟩,t.flds.length,cf⟩:Tld)]⟩).map (tsq Y 128)):=by rw [List.map_set];exact S9
       clear hcs hi9 T
       go_wp2_with fail
       refine ⟨⟨S9.b,(by first | exact S9.lv 1 rfl | exact ⟨S9.lv 1 rfl,S9.lv 2 rfl⟩)⟩,?_⟩;refine mixT_l rfl rfl (fun K9 hK9=>?_);refine S9.putG 3 rfl (T:=125) (E:=124) (by kernel_rfl) rfl _ _ _ rfl rfl f.name rfl (.slice A9 (q.ls++[(⟨⟨t.no,t.at',t.src,⟨f.kind,f.text,f.num⟩⟩,Ai,t.ids.length,ci,some ⟨b7,o7,none⟩,t.flds.length,cf⟩:Tld)]).length c9) rfl ?_;intro w10 S10;obtain ⟨u1,u2⟩:=e6.out ⟨f.name,A9,c9,q.ls++[(⟨⟨t.no,t.at',t.src,⟨f.kind,f.text,f.num⟩⟩,Ai,t.ids.length,ci,some ⟨b7,o7,none⟩,t.flds.length,cf⟩:Tld)]⟩ rfl;replace S10:Mem w w10 (.loc U #[.int .i64 t.no,.int .i64 t.at',.string t.src,.slice Ai t.ids.length ci,.slice (some ⟨b7,o7,none⟩) t.flds.length cf,.int .i64 f.kind,.string f.text,.int .i64 f.num] 128::.loc V (fdCs f) 59::(.loc TB (tcCs t Ai ci (some ⟨b7,o7,none⟩) cf) 85)::.mapG keyStr M ((qs1.set j ⟨f.name,A9,c9,q.ls++[(⟨⟨t.no,t.at',t.src,⟨f.kind,f.text,f.num⟩⟩,Ai,t.ids.length,ci,some ⟨b7,o7,none⟩,t.flds.length,cf⟩:Tld)]⟩).map TS.kv)::(qs1.set j ⟨f.name,A9,c9,q.ls++[(⟨⟨t.no,t.at',t.src,⟨f.kind,f.text,f.num⟩⟩,Ai,t.ids.length,ci,some ⟨b7,o7,none⟩,t.flds.length,cf⟩:Tld)]⟩).map (tsq Y 128)):=by rw [← u1];exact S10
       have HO3:Hid (TelOk (L++[(f.name,(⟨⟨t.no,t.at',t.src,⟨f.kind,f.text,f.num⟩⟩,Ai,t.ids.length,ci,some ⟨b7,o7,none⟩,t.flds.length,cf⟩:Tld))]) (qs1.set j ⟨f.name,A9,c9,q.ls++[(⟨⟨t.no,t.at',t.src,⟨f.kind,f.text,f.num⟩⟩,Ai,t.ids.length,ci,some ⟨b7,o7,none⟩,t.flds.length,cf⟩:Tld)]⟩)):=HO.out.put rfl (by show q.ls++[(⟨⟨t.no,t.at',t.src,⟨f.kind,f.text,f.num⟩⟩,Ai,t.ids.length,ci,some ⟨b7,o7,none⟩,t.flds.length,cf⟩:Tld)]=_;rw [← e5.out,HO.out.getD]) u2 e3.out ⟨q,e1.out,e2.out⟩;clear S9 u1 u2
       go_wp2_with fail
       refine ⟨⟨S10.b,(by first | exact S10.lv 1 rfl | exact ⟨S10.lv 1 rfl,S10.lv 2 rfl⟩)⟩,?_⟩;refine mixT_nil ?_;simp only [Exit.then]
       refine hKK _ _ ?_;clear hKK KK
       go_wp2_with fail
       go_roundw
       case rel=>exact ⟨n + 1,qs1.set j ⟨f.name,A9,c9,q.ls++[(⟨⟨t.no,t.at',t.src,⟨f.kind,f.text,f.num⟩⟩,Ai,t.ids.length,ci,some ⟨b7,o7,none⟩,t.flds.length,cf⟩:Tld)]⟩,L++[(f.name,(⟨⟨t.no,t.at',t.src,⟨f.kind,f.text,f.num⟩⟩,Ai,t.ids.length,ci,some ⟨b7,o7,none⟩,t.flds.length,cf⟩:Tld))],by omega,by go_num,HO3,HL2,S10.drop2⟩
       case measure=>simp [intOf];omega
      ·go_wp2_with fail
       obtain ⟨U,hU⟩:∃ U,U=(wd).heap.size:=⟨_,rfl⟩;replace T:Mem w ((wd).alloc (.cells #[.int .i64 t.no,.int .i64 t.at',.string t.src,.slice Ai t.ids.length ci,.slice (some ⟨b7,o7,none⟩) t.flds.length cf,.int .i64 f.kind,.string f.text,.int .i64 f.num] 128)) (.loc U #[.int .i64 t.no,.int .i64 t.at',.string t.src,.slice Ai t.ids.length ci,.slice (some ⟨b7,o7,none⟩) t.flds.length cf,.int .i64 f.kind,.string f.text,.int .i64 f.num] 128::.loc V (fdCs f) 59::(.loc TB (tcCs t Ai ci (some ⟨b7,o7,none⟩) cf) 85)::.mapG keyStr M (q0.map TS.kv)::qs1.map (tsq Y 128)):=(T.newAt _ 128 U hU).front;rw [← hU];clear hU;generalize (wd).alloc (.cells #[.int .i64 t.no,.int .i64 t.at',.string t.src,.slice Ai t.ids.length ci,.slice (some ⟨b7,o7,none⟩) t.flds.length cf,.int .i64 f.kind,.string f.text,.int .i64 f.num] 128)=we at *;refine ⟨⟨T.b,(by first | exact T.lv 1 rfl | exact ⟨T.lv 1 rfl,T.lv 2 rfl⟩)⟩,?_⟩;refine mixT_l rfl rfl (fun K9 hK9=>?_);have hlk:=look_g (K:=keyStr) (T:=125) (E:=124) (T.ok (.mapG keyStr M (q0.map TS.kv)) (by simp):MapG keyStr we M (q0.map TS.kv)) (by kernel_rfl) (zeroSlR we) f.name false;rw [if_neg (by decide),e4.out] at hlk;replace hlk:(Instr.lookup 125 (.map (some M)) (.string f.name) false).run Tryz.prog we=.ok (.slice q.A q.ls.length q.c) we:=hlk
       go_wp2_with fail
       refine ⟨⟨T.b,(by first | exact T.lv 1 rfl | exact ⟨T.lv 1 rfl,T.lv (1 + 1) rfl⟩)⟩,?_⟩;clear hlk;have hcs:∀ (j:Nat) (u:Value),([(⟨⟨t.no,t.at',t.src,⟨f.kind,f.text,f.num⟩⟩,Ai,t.ids.length,ci,some ⟨b7,o7,none⟩,t.flds.length,cf⟩:Tld)].map Tld.cells).flatten[j]? =some u→(we).cell? ((⟨U,0,none⟩:Addr).add j)=some u:=fun j u hu=>by
        have h0:=(T.lv 0 rfl).cell j u (by simpa [Tld.cells] using hu);rw [add_at,Nat.zero_add];exact h0
       have hsB:Y≤(we).heap.size:=by rw [Hb.out];exact T.b.size
       refine mixT_l rfl rfl (fun K9 hK9=>?_);refine T.appN flatTld (j + 4) (by show (qs1.map (tsq Y 128))[j]? =_;rw [List.getElem?_map,e1.out];rfl) tyTlr rfl _ _ rfl [(⟨⟨t.no,t.at',t.src,⟨f.kind,f.text,f.num⟩⟩,Ai,t.ids.length,ci,some ⟨b7,o7,none⟩,t.flds.length,cf⟩:Tld)] 1 1 rfl rfl ⟨U,0,none⟩ rfl hcs (fun y _=>oneTld y) (fun _=>rfl) hsB (by simp only [List.length_singleton];have:=Hql.out;omega) (by decide) ?_;intro v9 w9 S9;have hi9:((qs1.map (tsq Y 128)).set j (.own rTld Y 128 v9 (q.ls++[(⟨⟨t.no,t.at',t.src,⟨f.kind,f.text,f.num⟩⟩,Ai,t.ids.length,ci,some ⟨b7,o7,none⟩,t.flds.length,cf⟩:Tld)])))[j]? =some (.own rTld Y 128 v9 (q.ls++[(⟨⟨t.no,t.at',t.src,⟨f.kind,f.text,f.num⟩⟩,Ai,t.ids.length,ci,some ⟨b7,o7,none⟩,t.flds.length,cf⟩:Tld)])):=List.getElem?_set_self (by rw [List.length_map];exact lt_of_get e1.out);replace S9:Mem w w9 (.loc U #[.int .i64 t.no,.int .i64 t.at',.string t.src,.slice Ai t.ids.length ci,.slice (some ⟨b7,o7,none⟩) t.flds.length cf,.int .i64 f.kind,.string f.text,.int .i64 f.num] 128::.loc V (fdCs f) 59::(.loc TB (tcCs t Ai ci (some ⟨b7,o7,none⟩) cf) 85)::.mapG keyStr M (q0.map TS.kv)::(qs1.map (tsq Y 128)).set j (.own rTld Y 128 v9 (q.ls++[(⟨⟨t.no,t.at',t.src,⟨f.kind,f.text,f.num⟩⟩,Ai,t.ids.length,ci,some ⟨b7,o7,none⟩,t.flds.length,cf⟩:Tld)]))):=S9;obtain ⟨A9,c9,e9⟩:=(S9.ow (j + 4) hi9).len;subst e9;replace S9:Mem w w9 (.loc U #[.int .i64 t.no,.int .i64 t.at',.string t.src,.slice Ai t.ids.length ci,.slice (some ⟨b7,o7,none⟩) t.flds.length cf,.int .i64 f.kind,.string f.text,.int .i64 f.num] 128::.loc V (fdCs f) 59::(.loc TB (tcCs t Ai ci (some ⟨b7,o7,none⟩) cf) 85)::.mapG keyStr M (q0.map TS.kv)::(qs1.set j ⟨f.name,A9,c9,q.ls++[(⟨⟨t.no,t.at',t.src,⟨f.kind,f.text,f.num⟩⟩,Ai,t.ids.length,ci,some ⟨b7,o7,none⟩,t.flds.length,cf⟩:Tld)]⟩).map (tsq Y 128)):=by rw [List.map_set];exact S9
       clear hcs hi9 T
       go_wp2_with fail
       refine ⟨⟨S9.b,(by first | exact S9.lv 1 rfl | exact ⟨S9.lv 1 rfl,S9.lv 2 rfl⟩)⟩,?_⟩;refine mixT_l rfl rfl (fun K9 hK9=>?_);refine S9.putG 3 rfl (T:=125) (E:=124) (by kernel_rfl) rfl _ _ _ rfl rfl f.name rfl (.slice A9 (q.ls++[(⟨⟨t.no,t.at',t.src,⟨f.kind,f.text,f.num⟩⟩,Ai,t.ids.length,ci,some ⟨b7,o7,none⟩,t.flds.length,cf⟩:Tld)]).length c9) rfl ?_;intro w10 S10;obtain ⟨u1,u2⟩:=e6.out ⟨f.name,A9,c9,q.ls++[(⟨⟨t.no,t.at',t.src,⟨f.kind,f.text,f.num⟩⟩,Ai,t.ids.length,ci,some ⟨b7,o7,none⟩,t.flds.length,cf⟩:Tld)]⟩ rfl;replace S10:Mem w w10 (.loc U #[.int .i64 t.no,.int .i64 t.at',.string t.src,.slice Ai t.ids.length ci,.slice (some ⟨b7,o7,none⟩) t.flds.length cf,.int .i64 f.kind,.string f.text,.int .i64 f.num] 128::.loc V (fdCs f) 59::(.loc TB (tcCs t Ai ci (some ⟨b7,o7,none⟩) cf) 85)::.mapG keyStr M ((qs1.set j ⟨f.name,A9,c9,q.ls++[(⟨⟨t.no,t.at',t.src,⟨f.kind,f.text,f.num⟩⟩,Ai,t.ids.length,ci,some ⟨b7,o7,none⟩,t.flds.length,cf⟩:Tld)]⟩).map TS.kv)::(qs1.set j ⟨f.name,A9,c9,q.ls++[(⟨⟨t.no,t.at',t.src,⟨f.kind,f.text,f.num⟩⟩,Ai,t.ids.length,ci,some ⟨b7,o7,none⟩,t.flds.length,cf⟩:Tld)]⟩).map (tsq Y 128)):=by rw [← u1];exact S10
       have HO3:Hid (TelOk (L++[(f.name,(⟨⟨t.no,t.at',t.src,⟨f.kind,f.text,f.num⟩⟩,Ai,t.ids.length,ci,some ⟨b7,o7,none⟩,t.flds.length,cf⟩:Tld))]) (qs1.set j ⟨f.name,A9,c9,q.ls++[(⟨⟨t.no,t.at',t.src,⟨f.kind,f.text,f.num⟩⟩,Ai,t.ids.length,ci,some ⟨b7,o7,none⟩,t.flds.length,cf⟩:Tld)]⟩)):=HO.out.put rfl (by show q.ls++[(⟨⟨t.no,t.at',t.src,⟨f.kind,f.text,f.num⟩⟩,Ai,t.ids.length,ci,some ⟨b7,o7,none⟩,t.flds.length,cf⟩:Tld)]=_;rw [← e5.out,HO.out.getD]) u2 e3.out ⟨q,e1.out,e2.out⟩;clear S9 u1 u2
       go_wp2_with fail
       refine ⟨⟨S10.b,(by first | exact S10.lv 1 rfl | exact ⟨S10.lv 1 rfl,S10.lv 2 rfl⟩)⟩,?_⟩;refine mixT_nil ?_;simp only [Exit.then]
       refine hKK _ _ ?_;clear hKK KK
       go_wp2_with fail
       go_roundw
       case rel=>exact ⟨n + 1,qs1.set j ⟨f.name,A9,c9,q.ls++[(⟨⟨t.no,t.at',t.src,⟨f.kind,f.text,f.num⟩⟩,Ai,t.ids.length,ci,some ⟨b7,o7,none⟩,t.flds.length,cf⟩:Tld)]⟩,L++[(f.name,(⟨⟨t.no,t.at',t.src,⟨f.kind,f.text,f.num⟩⟩,Ai,t.ids.length,ci,some ⟨b7,o7,none⟩,t.flds.length,cf⟩:Tld))],by omega,by go_num,HO3,HL2,S10.drop2⟩
       case measure=>simp [intOf];omega
    ·obtain rfl:n=t.flds.length:=by omega
     have HL2:Hid (coreL L=(ts.take (k + 1)).flatMap (tellF p.tch)):=by
      show _=_;rw [HL.out,Hsn2.out]
     clear HL
     go_wp2_with fail
     go_roundw
     case rel=>exact ⟨k + 1,q0,L,by omega,by go_num,HO,HL2,S1.drop1⟩
     case measure=>simp [intOf];omega
  ·obtain rfl:k=ts.length:=by omega
   have HL2:Hid (coreL L=tellR ts p.tch):=by
    show _=_;rw [HL.out,List.take_length];rfl
   have HS:Hid (Mem wz wr [.mapG keyStr M (qs.map TS.kv),.tslots qs]):=HT0.out.join S1.frzTS;clear S1
   go_wp2_with fail
   go_ret
   exact ⟨M,qs,L,rfl,HO.out,HL2.out,HS.out⟩
end
section
open Go Go.RowKit Go.Sort Go.Shelf Go.MapKept
theorem cmpFBytes_is:∀ l m:List UInt8,Lib.compareBytes l m=if l < m then -1 else if l=m then 0 else 1
 | [],[]=>by simp [Lib.compareBytes]
 | [],b::s=>by simp [Lib.compareBytes]
 | a::r,[]=>by simp [Lib.compareBytes]
 | a::r,b::s=>by
  unfold Lib.compareBytes;by_cases h1:a < b
  ·rw [if_pos h1,if_pos (List.cons_lt_cons_iff.2 (.inl h1))]
  ·rw [if_neg h1];by_cases h2:b < a
   ·have hne:a≠b:=fun e=>by subst e;exact h1 h2
    rw [if_pos h2,if_neg (fun h=>?_),if_neg (fun e=>hne (List.cons.inj e).1)];rcases List.cons_lt_cons_iff.1 h with h | ⟨h,_⟩
    ·exact h1 h
    ·exact hne h
   ·have he:a=b:=by
     have h3:¬ a.toNat < b.toNat:=h1;have h4:¬ b.toNat < a.toNat:=h2;exact UInt8.toNat_inj.1 (by omega)
    subst he;rw [if_neg h2,cmpFBytes_is r s];simp
theorem cmpSF_bytes (a b:ByteArray):Lib.compareBytes a.data.toList b.data.toList=cmpS a b:=by
 rw [cmpFBytes_is];unfold cmpS;rw [bytesLess_eq,ByteArray.toList_eq,ByteArray.toList_eq];by_cases h1:a.data.toList < b.data.toList
 ·simp [h1]
 ·by_cases h2:a.data.toList=b.data.toList
  ·simp [h2]
  ·simp [h1,h2,show ¬ a.data=b.data from fun h=>h2 (by rw [h])]
theorem strCmpF_any (a b:ByteArray)(w:World):Calls Tryz.prog 128 #[.string a,.string b] w fun e w'=>e=.returned (.int .i64 (cmpS a b))∧w=w' :=
 (Tryz.strings_Compare a b w).mono fun _ _ ⟨h1,h2⟩=>⟨by rw [h1,cmpSF_bytes],h2.symm⟩
theorem recR1_any (a b:Fld)(w:World):Calls Tryz.prog 127 #[.agg (fdCs a),.agg (fdCs b)] w fun e w'=>e=.returned (.int .i64 (cmpNm a b))∧Grew w w':=by
 obtain ⟨X,hX⟩:∃ X,X=w.heap.size:=⟨_,rfl⟩;have S1:=(Mem.start w).newAt (fdCs a) 59 X hX;have S:Mem w _ [.loc X (fdCs a) 59,.loc (X + 1) (fdCs b) 59]:=S1.newAt (fdCs b) 59 (X + 1) (by rw [hX,World.size_alloc]);have Hg:Hid (Grew w ((w.alloc (.cells (fdCs a) 59)).alloc (.cells (fdCs b) 59))):=((Grew.refl _).alloc _).alloc _;clear S1
 go_enter Tryz.func127,Tryz.ntmps127
 go_upto_region 1 with fail
 rw [← hX];clear hX;generalize (w.alloc (.cells (fdCs a) 59)).alloc (.cells (fdCs b) 59)=w2 at *;have l0:=(S.lv 0 rfl).all;have l1:=(S.lv 1 rfl).all;have Hc:=Lib.hid (strCmpF_any a.name b.name w2)
 go_wp2_with fail
 ((with_reducible refine (Hc.out).mono ?_);rintro e _ ⟨rfl,rfl⟩)
 go_wp2_with fail
 go_ret
 exact ⟨rfl,Hg.out⟩
theorem sortFldR_any {w0 w:World}{cs:List Chunk}(S:Mem w0 w cs)(i:Nat){B:Nat}{v:Value}{xs:List Fld}(hi:cs[i]? =some (.own rFld B 59 v xs))(hl:xs.length≤1000000) :
  Calls Tryz.prog 109 #[v,.func (.func 127) #[] #[]] w (GivesSorted rFld cmpNm w0 cs i B 59 v xs) :=
 haveI:Inhabited Fld:=⟨⟨⟨#[]⟩,0,⟨#[]⟩,0⟩⟩
 sortFn_own flatFld (by decide) (fun _=>rfl) oneFld Tryz.laysSf109 Tryz.isAgg59 Tryz.sizeOf59 (fun _=>True) cmpNm cmpNm cmpNm_ok (fun _ _=>Iff.rfl) 127 (enters_of Tryz.func127 (by kernel_rfl) rfl) (fun a b _ _ w=>recR1_any a b w) S i hi (fun _ _=>trivial) hl
theorem field3r (a b k n:Int)(s t:ByteArray)(u v:Value)(hu:∃ A n c,u=.slice A n c)(hv:∃ A n c,v=.slice A n c)(w:World):(Instr.field 128 (.agg #[.int .i64 a,.int .i64 b,.string s,u,v,.int .i64 k,.string t,.int .i64 n]) 1).run Tryz.prog w=.ok (.agg #[.int .i64 k,.string t,.int .i64 n]) w:=by
 obtain ⟨A,n1,c,rfl⟩:=hu;obtain ⟨B,m,d,rfl⟩:=hv;have u48:=Tryz.underlying128;have a4:=Tryz.isAgg57;simp only [Instr.field,run_underlying u48,Sem.run_bind,Result.andThen_ok]
 go_simp
 first | rfl | simp [asAgg]
def svR (r:Rul)(nm:ByteArray)(x0:Tc)(r0:List Tc):Vt:=(survR (surHow r nm) (surSrc r nm) x0 r0).v
theorem rec_ex {sv:ByteArray→Tc→List Tc→Vt}{L:List (ByteArray×Tld)}{C:List (ByteArray×Tc)}{qs:List TS}{xs:List Fld}{dq:List (ByteArray×Value)}(hT:TelOk L qs)(hC:coreL L=C)(hp:dq.Perm (qs.map TS.kv))(hx:xs=dq.map (fun p=>recF sv C p.1)):∃ m,IsRec sv C m∧m.length=xs.length:=by
 refine ⟨xs.mergeSort (fun a b=>decide (cmpNm a b≤0)),rec_is hT hC hp (by rw [← hx];exact List.mergeSort_perm _ _) ?_,List.length_mergeSort _⟩;have h:=List.pairwise_mergeSort (le:=fun a b:Fld=>decide (cmpNm a b≤0)) (fun a b d h1 h2=>by
  simp only [decide_eq_true_eq] at *
  exact cmpNm_ok.trans _ _ _ h1 h2) (fun a b=>by
  simp only [Bool.or_eq_true,decide_eq_true_eq]
  have h1:=cmpNm_ok.anti a b;have h2:=cmpNm_ok.anti b a;omega) xs
 exact h.imp (fun h=>by simpa using h)
def GivesRecR (sv:ByteArray→Tc→List Tc→Vt)(C:List (ByteArray×Tc))(w:World)(e:Ending)(w':World):Prop :=
 ∃ (A:Option Addr) (c:Nat) (l:List Fld) (F:Int),e=.returned (.tuple #[.slice A l.length c,.int .i64 F])∧(∃ m,IsRec sv C m∧((30 < m.length∧F=2∧l=[])∨(m.length≤30∧F=0∧l=m)))∧Mem w w' [.sl rFld A l]
set_option maxHeartbeats 8000000 in
set_option maxRecDepth 100000 in
theorem recordR_any (r:Rul)(K W S A:Option Addr)(ck cw cs c:Nat)(ts:List Tch)(p:Psn)(At Ap:Option Addr)(ca cp:Nat)(w:World)(hR:RulIn (fun _=>False) w r K W S)(hT:Sl rTch (fun _=>False) w A ts)(htl:ts.length≤2000)(hfl:∀ t∈ts,t.flds.length≤1000)(hpl:p.tch.length≤1000000)(hC:Sl rInt (fun _=>False) w At p.tch)
  (hsl:r.surv.length≤30) (hss:∀ s∈r.surv,s.srcs.length≤1000000) (hsm:SmC (tellR ts p.tch)) (hcl:(tellR ts p.tch).length≤900000) (hU:Tabs w) :
  Calls Tryz.prog 64 #[.agg (ruCs r K ck W cw S cs),.slice A ts.length c,.agg (psCs p At ca Ap cp)] w (GivesRecR (svR r) (tellR ts p.tch) w):=by
 have Htl:=Lib.hid (fun w' (h:Below w.heap.size w w')=>refTellings_any A c ts p At Ap ca cp w' (hT.keepB h) htl hfl hpl (hC.keepB h));have Hsr:=Lib.hid (fun nm w' (h:Below w.heap.size w w')=>survivalR_any r K W S ck cw cs nm w' (hR.keepB h) (by omega) hss);have HU:=Lib.hid (fun w' (h:Below w.heap.size w w')=>Utf8Tabs_below hU h);have Hsm:=Lib.hid hsm;obtain ⟨C,hCe⟩:∃ C,tellR ts p.tch=C:=⟨_,rfl⟩;rw [hCe] at Htl Hsm hcl ⊢;obtain ⟨sv,hsve⟩:∃ sv,svR r=sv:=⟨_,rfl⟩;rw [hsve];have Hsve:=Lib.hid hsve;obtain ⟨Y,hY⟩:∃ Y,Y=w.heap.size:=⟨_,rfl⟩;have T0:Mem w (w.alloc (.cells (ruCs r K ck W cw S cs) 29)) [.loc Y (ruCs r K ck W cw S cs) 29]:=(Mem.start w).newAt _ 29 Y hY;have T:Mem w ((w.alloc (.cells (ruCs r K ck W cw S cs) 29)).alloc (.cells (psCs p At ca Ap cp) 98)) [.loc Y (ruCs r K ck W cw S cs) 29,.loc (Y + 1) (psCs p At ca Ap cp) 98]:=T0.newAt _ 98 (Y + 1) (by rw [hY,World.size_alloc]);have Hb:=Lib.hid hY;clear hR hT hC hfl hss hsm hCe hsve hU T0
 go_enter Tryz.func64,Tryz.ntmps64
 go_upto_region 1 with fail
 rw [← hY];clear hY;generalize (w.alloc (.cells (ruCs r K ck W cw S cs) 29)).alloc (.cells (psCs p At ca Ap cp) 98)=w1 at *;obtain ⟨X,hX⟩:∃ X,X=Y + 1:=⟨_,rfl⟩;rw [← hX] at T ⊢;clear hX;have x0:=(T.lv 1 rfl).all
 go_wp2_with fail
 ((with_reducible refine (Htl.out w1 T.b).mono ?_);rintro e w2 ⟨M,qs,L,rfl,hTL,hLC,M2⟩)
 have S2:Mem w w2 [.loc Y (ruCs r K ck W cw S cs) 29,.mapG keyStr M (qs.map TS.kv),.tslots qs]:=(T.join M2).del 1;have hTl2:=tel_len hTL;have hql:qs.length≤900000:=by
  have h1:=congrArg List.length hLC;unfold coreL at h1;rw [List.length_map] at h1;omega
 have HTL:=Lib.hid hTL;have HLC:=Lib.hid hLC;obtain ⟨es,clock,hE,S3⟩:=S2.openG 1 rfl;have HE:=Lib.hid hE;obtain ⟨hrg,S4⟩:=S3.rangeO (S3.atF 1 rfl) (T:=125) (k:=9) (e:=124) (by kernel_rfl);obtain ⟨Zr,hZr⟩:∃ Zr,Zr=w2.heap.size:=⟨_,rfl⟩;rw [← hZr] at hrg S4;have S5:Mem w (w2.alloc (.mapIter (some M) clock #[] clock)) [.own rFld Y 59 (.slice none 0 0) [],.loc Y (ruCs r K ck W cw S cs) 29,.mapF M es clock,.tslots qs,.iter Zr M clock #[] clock]:=(S4.nil rFld Y 59).front;clear T M2 S2 S3 S4 hZr hE hTL hLC hTl2 Htl x0
 go_wp2_with fail
 clear hrg;generalize w2.alloc (.mapIter (some M) clock #[] clock)=w4 at *;have HR0:Hid (RngOk keyStr es clock #[] (qs.map TS.kv) [] (qs.map TS.kv)):=RngOk.start HE.out
 go_loopw [8] (fun v wr=>∃ (seen:Array Nat) (dq left:List (ByteArray×Value)) (xs:List Fld) (A8:Option Addr) (c8:Nat),v=.slice A8 xs.length c8∧Hid (RngOk keyStr es clock seen (qs.map TS.kv) dq left)∧Hid (xs=dq.map (fun p=>recF sv C p.1))∧Mem w wr [.own rFld Y 59 (.slice A8 xs.length c8) xs,.loc Y (ruCs r K ck W cw S cs) 29,.mapF M es clock,.tslots qs,.iter Zr M clock seen clock]) (fun _ wr=>iterLeft es Zr wr)
 case atStart=>exact ⟨#[],[],qs.map TS.kv,[],none,0,rfl,HR0,rfl,S5⟩
 case round =>
  clear S5 HR0;obtain ⟨seen,dq,left,xs,A8,c8,rfl,HRg,Hxs,S3⟩:=hrel;have hsz3:Hid (iterLeft es Zr wr=left.length):=S3.iterSize 4 rfl HRg.out;have hxl:xs.length≤900000:=by
   have h1:=HRg.out.perm.length_eq;have h2:=congrArg List.length Hxs.out;rw [List.length_map] at h2;rw [List.length_append,List.length_map] at h1;omega
  rcases S3.nextO 4 (S3.atF 2 rfl) rfl (Nat.le_refl _) HRg.out with ⟨hl0,hp0,hnx⟩ | ⟨pq,left',seen',w5,hpm,hll,hrg,hnx,hen,S5⟩
  ·have S6:Mem w wr [.own rFld Y 59 (.slice A8 xs.length c8) xs]:=(((S3.del 4).del 3).del 2).del 1;have Hp0:=Lib.hid hp0;clear hp0 hl0 S3 hsz3;have Hex:Hid (∃ m,IsRec sv C m∧m.length=xs.length):=rec_ex HTL.out HLC.out Hp0.out Hxs.out;by_cases hlen:30 < xs.length
   ·have Hw:Hid (Mem w wr [.sl rFld none []]):=(S6.del 0).call (Below.refl _ _) _ Sl.nil (fun k e=>by cases e);clear S6
    go_wp2_with fail
    obtain ⟨m,hm,hml⟩:=Hex.out;exact bodyPost_ret (results_two rfl rfl rfl) rfl ⟨none,0,[],2,rfl,⟨m,hm,.inl ⟨by omega,rfl,rfl⟩⟩,Hw.out⟩
   ·have Hs9:=Lib.hid (sortFldR_any S6 0 rfl (by omega));clear S6
    go_wp2_with fail
    ((with_reducible refine (Hs9.out).mono ?_);rintro e w6 ⟨rfl,ys,hperm,hord,S7⟩)
    have HI:Hid (IsRec sv C ys):=rec_is HTL.out HLC.out Hp0.out (by rw [← Hxs.out];exact hperm) hord;have hyl:=hperm.length_eq;obtain ⟨A9,c9,e9,S8⟩:=S7.frz 0 rfl;have HS8:=Lib.hid S8;have He9:=Lib.hid e9;clear Hs9 hperm hord S7 S8 e9
    go_wp2_with fail
    refine bodyPost_ret (results_two rfl rfl rfl) rfl ⟨A9,c9,ys,0,?_,⟨ys,HI.out,.inr ⟨by omega,rfl,rfl⟩⟩,HS8.out⟩;rw [← He9.out];rfl
  ·obtain ⟨q,hqm,hqe⟩:=List.mem_map.1 (HRg.out.perm.mem_iff.1 (List.mem_append_right _ hpm));obtain ⟨nm,val⟩:=pq;unfold TS.kv at hqe;simp only [Prod.mk.injEq] at hqe
   obtain ⟨hqn,rfl⟩:=hqe;have hgl:getG nm (qs.map TS.kl)=some q.ls:=by
    obtain ⟨j,hj⟩:=List.mem_iff_getElem?.1 hqm;exact (getG_at (L:=qs.map TS.kl) (j:=j) (k:=nm) (v:=q.ls) (by rw [tkl_keys];exact HTL.out.nd) (by rw [List.getElem?_map,hj,← hqn];rfl)).1
   have hselE:q.ls=sel nm L∧sel nm L≠[]:=by
    have h1:=HTL.out.is nm;rw [hgl] at h1;split at h1
    ·cases h1
    ·rename_i h2
     exact ⟨Option.some.inj h1,h2⟩
   obtain ⟨x0,r0,hx0⟩:∃ x0 r0,q.ls=x0::r0:=by
    cases h:q.ls with
    | nil=>exact absurd (hselE.1.symm.trans h) hselE.2
    | cons a b=>exact ⟨a,b,rfl⟩
   have hcore:selC nm C=x0.q::r0.map Tld.q:=by
    have h1:(sel nm L).map Tld.q=selC nm C:=by rw [sel_core,← HLC.out];rfl
    rw [← h1,← hselE.1,hx0];rfl
   have Hok:Hid (∀ a∈x0::r0,a.q.v.t.size≤1000000∧-4611686018427387904≤a.q.v.n∧a.q.v.n≤4611686018427387904):=fun a ha=>by
    have h1:a∈sel nm L:=by rw [← hselE.1,hx0];exact ha
    have h2:=sel_mem h1;rw [HLC.out] at h2;exact Hsm.out _ h2
   have hll0:(x0::r0).length≤1000000:=by
    rw [← hx0,hselE.1];have h1:=sel_le nm L;have h2:=congrArg List.length HLC.out;unfold coreL at h2;rw [List.length_map] at h2;omega
   have Hll0:=Lib.hid hll0;obtain ⟨n5,hn5⟩:∃ n5,q.ls.length=n5:=⟨_,rfl⟩;obtain ⟨A5,hA5⟩:∃ A5,q.A=A5:=⟨_,rfl⟩;obtain ⟨c5,hc5⟩:∃ c5,q.c=c5:=⟨_,rfl⟩;have Hn5:Hid (n5=(x0::r0).length):=by show _=_;rw [← hn5,hx0]
   have Hsl:Hid (Sl rTld (fun _=>False) w5 A5 (x0::r0)):=by
    have h1:TSlotsOk _ w5 qs:=S5.ok (.tslots qs) (.tail _ (.tail _ (.tail _ (.head _))));have h2:=(h1 q hqm).1;rw [hx0,hA5] at h2;exact h2.mono (fun _ _ h=>h.elim)
   have Hcap:Hid (n5≤c5):=by
    have h1:TSlotsOk _ w5 qs:=S5.ok (.tslots qs) (.tail _ (.tail _ (.tail _ (.head _))));have h2:=(h1 q hqm).2;rw [hn5,hc5] at h2;exact h2
   have Hrec:Hid (recF sv C nm=⟨nm,(svR r nm x0.q (r0.map Tld.q)).k,(svR r nm x0.q (r0.map Tld.q)).t,(svR r nm x0.q (r0.map Tld.q)).n⟩):=by
    show _=_;unfold recF;rw [hcore,← Hsve.out]
   have Hrg:=Lib.hid hrg;have Hll:=Lib.hid hll;rw [hn5,hA5,hc5] at hnx hen Hrg;have hnx2:∀ ty,(Instr.next (.pointer (some ⟨Zr,0,none⟩)) false ty).run Tryz.prog wr=.ok (.tuple #[.bool true,.string nm,.slice A5 n5 c5]) w5:=hnx;have hen2:(Instr.entry (.pointer (some ⟨Zr,0,none⟩))).run Tryz.prog w5=.ok (.tuple #[.string nm,.slice A5 n5 c5]) w5:=hen;unfold svR at Hrec;obtain ⟨V,hV⟩:∃ V,(survR (surHow r nm) (surSrc r nm) x0.q (r0.map Tld.q)).v=V:=⟨_,rfl⟩;rw [hV] at Hrec;have HV:=Lib.hid hV;have Hsn:Hid (xs++[(⟨nm,V.k,V.t,V.n⟩:Fld)]=(dq++[(nm,Value.slice A5 n5 c5)]).map (fun p=>recF sv C p.1)):=by
    show _=_;rw [List.map_append,← Hxs.out,List.map_cons,List.map_nil,Hrec.out]
   have y0:=(S5.lv 1 rfl).all;clear hnx hen S3 hpm hll hrg hqm hqn hgl hselE hx0 hcore hll0 hn5 hA5 hc5 hV
   go_wp2_with fail
   clear hnx2 hen2;((with_reducible refine (Hsr.out nm w5 S5.b).mono ?_);rintro e w6 ⟨s,As,cA,rfl,hs1,hs2,hs3,hs4,hl6⟩)
   have S6:=S5.below hl6;have Hsu:=Lib.hid (survivorR_any (fun _=>False) (fun _=>False) s As cA A5 x0 r0 n5 c5 w6 hs4 hs3 (Hsl.out.keepB hl6) Hn5.out Hcap.out Hll0.out Hok.out (HU.out w6 S6.b));have Hs1:=Lib.hid hs1;have Hs2:=Lib.hid hs2;clear S5 hl6 y0 hs4 hs1 hs2
   go_wp2_with fail
   ((with_reducible refine (Hsu.out).mono ?_);rintro e w8 ⟨⟨g,hg,rfl⟩,hl8⟩)
   have hfd:=field3r g.q.no g.q.at' g.q.v.k g.q.v.n g.q.src g.q.v.t (.slice g.A g.n g.c) (.slice g.B g.m g.d) ⟨_,_,_,rfl⟩ ⟨_,_,_,rfl⟩;have hgV:g.q.v=V:=by
    rw [hg,Hs1.out,Hs2.out];exact HV.out
   have S8:=S6.below hl8;have hsz:Y≤w8.heap.size:=by rw [Hb.out];exact S8.b.size
   have HS6:=Lib.hid S8;have HgV:=Lib.hid hgV;clear S6 S8 hl8 Hsu hg hgV
   go_wp2_with (at_builtin;refine HS6.out.app 0 rfl tyFld rfl _ _ rfl ⟨nm,g.q.v.k,g.q.v.t,g.q.v.n⟩ 1 rfl rfl rfl (oneFld ⟨nm,g.q.v.k,g.q.v.t,g.q.v.n⟩) hsz (by omega) (by decide) ?_;intro v' w7 S7)
   rw [HgV.out] at S7;obtain ⟨A7,c7,e7⟩:=(S7.ow 0 rfl).len;subst e7;replace S7:Mem w w7 [.own rFld Y 59 (.slice A7 (xs++[(⟨nm,V.k,V.t,V.n⟩:Fld)]).length c7) (xs++[(⟨nm,V.k,V.t,V.n⟩:Fld)]),.loc Y (ruCs r K ck W cw S cs) 29,.mapF M es clock,.tslots qs,.iter Zr M clock seen' clock]:=S7
   go_roundw
   case rel=>exact ⟨seen',_,left',_,A7,c7,rfl,Hrg,Hsn,S7⟩
   case measure=>rw [hsz3.out,S7.iterSize 4 rfl Hrg.out];have:=Hll.out;omega
end
section
open Go Go.RowKit
def OwnAt (r:Rul)(ts:List Tch)(x:IdV)(o:Option (List Nat)):Prop:=∃ cc,IsPart ts.length (Edge r ts) cc ∧
 ((kfP (psns r ts cc) x=none∧o=none)∨∃ hd∈heads cc ts.length,kfP (psns r ts cc) x=some (psnAt r ts cc hd)∧o=some (partAt cc ts.length hd))
theorem OwnAt.uniq {r:Rul}{ts:List Tch}{x:IdV}{o o2:Option (List Nat)}(hu:NoUp ts)(h:OwnAt r ts x o)(g:OwnAt r ts x o2):o=o2:=by
 obtain ⟨c,hc,h⟩:=h;obtain ⟨d,hd,g⟩:=g;have hp:psns r ts c=psns r ts d:=IsPsns.uniq ⟨c,hc,rfl⟩ ⟨d,hd,rfl⟩;rw [← hp] at g;rcases h with ⟨a1,rfl⟩ | ⟨i,hi,a1,rfl⟩
 ·rcases g with ⟨_,rfl⟩ | ⟨j,_,b1,_⟩
  ·rfl
  ·rw [a1] at b1;cases b1
 ·rcases g with ⟨b1,_⟩ | ⟨j,hj,b1,rfl⟩
  ·rw [a1] at b1;cases b1
  ·rw [a1] at b1;have e:=congrArg Psn.tch (Option.some.inj b1);rw [parts_same hu e]
def RecOf (sv:ByteArray→Tc→List Tc→Vt)(ts:List Tch)(o:Option (List Nat))(F:Int)(l:List Fld):Prop :=
 (o=none∧F=8∧l=[])∨∃ at' m,o=some at'∧IsRec sv (tellC ts at') m∧((30 < m.length∧F=2∧l=[])∨(m.length≤30∧F=0∧l=m))
def SrcOf (sv:ByteArray→Tc→List Tc→Vt)(ts:List Tch)(nm:ByteArray)(o:Option (List Nat))(F:Int)(l:List Int):Prop :=
 (o=none∧F=8∧l=[])∨∃ at',o=some at'∧((selC nm (tellC ts at')=[]∧F=8∧l=[])∨∃ x0 r0,selC nm (tellC ts at')=x0::r0∧F=0∧l=((x0::r0).filter (fun y=>decide (y.v=sv nm x0 r0))).map Tc.no)
def RecAns (sv:ByteArray→Tc→List Tc→Vt)(r:Rul)(ts:List Tch)(x:IdV)(F:Int)(l:List Fld):Prop :=
 (firstErr [bothF r ts,L.idFault x.k x.t]≠0∧F=firstErr [bothF r ts,L.idFault x.k x.t]∧l=[])∨(firstErr [bothF r ts,L.idFault x.k x.t]=0∧bothF r ts=0∧∃ o,OwnAt r ts x o∧RecOf sv ts o F l)
def SrcAns (sv:ByteArray→Tc→List Tc→Vt)(r:Rul)(ts:List Tch)(x:IdV)(nm:ByteArray)(F:Int)(l:List Int):Prop :=
 (firstErr [bothF r ts,L.idFault x.k x.t]≠0∧F=firstErr [bothF r ts,L.idFault x.k x.t]∧l=[])∨(firstErr [bothF r ts,L.idFault x.k x.t]=0∧bothF r ts=0∧∃ o,OwnAt r ts x o∧SrcOf sv ts nm o F l)
theorem key_err {a b:Int}(h:a≠0):firstErr [a,b]=a∧firstErr [a,b]≠0:=by
 unfold firstErr;rw [if_pos h];exact ⟨rfl,h⟩
theorem key_err2 {a b:Int}(h:a=0)(h2:b≠0):firstErr [a,b]=b∧firstErr [a,b]≠0:=by
 unfold firstErr firstErr;rw [if_neg (by omega),if_pos h2];exact ⟨rfl,h2⟩
theorem key_ok {a b:Int}(h:a=0)(h2:b=0):firstErr [a,b]=0:=by
 unfold firstErr firstErr firstErr;rw [if_neg (by omega),if_neg (by omega)]
def SvEq (sv sv2:ByteArray→Tc→List Tc→Vt)(ts:List Tch)(at':List Nat):Prop:=∀ nm x0 r0,selC nm (tellC ts at')=x0::r0→sv nm x0 r0=sv2 nm x0 r0
theorem RecOf.uniq {sv sv2:ByteArray→Tc→List Tc→Vt}{ts:List Tch}{o:Option (List Nat)}{F F2:Int}{l l2:List Fld}(h:RecOf sv ts o F l)(g:RecOf sv2 ts o F2 l2)(hs:∀ at',o=some at'→SvEq sv sv2 ts at'):F=F2∧l=l2:=by
 rcases h with ⟨rfl,rfl,rfl⟩ | ⟨a,m,rfl,h1,h2⟩
 ·rcases g with ⟨_,rfl,rfl⟩ | ⟨_,_,e,_⟩
  ·exact ⟨rfl,rfl⟩
  ·cases e
 ·rcases g with ⟨e,_⟩ | ⟨a2,m2,e,g1,g2⟩
  ·cases e
  ·obtain rfl:=Option.some.inj e;obtain rfl:m=m2:=IsRec.uniq h1 g1 rfl (hs _ rfl);rcases h2 with ⟨a1,rfl,rfl⟩ | ⟨a1,rfl,rfl⟩
   ·rcases g2 with ⟨_,rfl,rfl⟩ | ⟨b1,_,_⟩
    ·exact ⟨rfl,rfl⟩
    ·omega
   ·rcases g2 with ⟨b1,_,_⟩ | ⟨_,rfl,rfl⟩
    ·omega
    ·exact ⟨rfl,rfl⟩
theorem SrcOf.uniq {sv sv2:ByteArray→Tc→List Tc→Vt}{ts:List Tch}{nm:ByteArray}{o:Option (List Nat)}{F F2:Int}{l l2:List Int}(h:SrcOf sv ts nm o F l)(g:SrcOf sv2 ts nm o F2 l2)(hs:∀ at',o=some at'→SvEq sv sv2 ts at'):F=F2∧l=l2:=by
 rcases h with ⟨rfl,rfl,rfl⟩ | ⟨a,rfl,h2⟩
 ·rcases g with ⟨_,rfl,rfl⟩ | ⟨_,e,_⟩
  ·exact ⟨rfl,rfl⟩
  ·cases e
 ·rcases g with ⟨e,_⟩ | ⟨a2,e,g2⟩
  ·cases e
  ·obtain rfl:=Option.some.inj e;rcases h2 with ⟨a1,rfl,rfl⟩ | ⟨x0,r0,a1,rfl,rfl⟩
   ·rcases g2 with ⟨_,rfl,rfl⟩ | ⟨_,_,b1,_,_⟩
    ·exact ⟨rfl,rfl⟩
    ·rw [a1] at b1;cases b1
   ·rcases g2 with ⟨b1,_,_⟩ | ⟨y0,t0,b1,rfl,rfl⟩
    ·rw [a1] at b1;cases b1
    ·rw [a1] at b1;injection b1 with e1 e2
     subst e1 e2;exact ⟨rfl,by rw [hs _ rfl nm x0 r0 a1]⟩
end
section
open Go Go.RowKit
structure QOk (ts:List Tch):Prop where
 fl:∀ t∈ts,t.flds.length≤1000
 sm:∀ t∈ts,∀ f∈t.flds,f.text.size≤1000000∧-4611686018427387904≤f.num∧f.num≤4611686018427387904
theorem QOk.smC {ts:List Tch}(h:QOk ts)(at':List Nat):SmC (tellC ts at'):=fun p hp=>by
 unfold tellC at hp;obtain ⟨i,_,hi⟩:=List.mem_flatMap.1 hp;cases ht:ts[i]? with
 | none=>rw [ht] at hi;cases hi
 | some t =>
  rw [ht] at hi;have hi2:p∈tellT t:=hi;unfold tellT at hi2;obtain ⟨f,hf,rfl⟩:=List.mem_map.1 hi2;exact h.sm t (List.mem_of_getElem? ht) f hf
def GivesRecT (r:Rul)(ts:List Tch)(x:IdV)(w:World)(e:Ending)(w':World):Prop :=
 ∃ (A:Option Addr) (c:Nat) (l:List Fld) (F:Int),e=.returned (.tuple #[.slice A l.length c,.int .i64 F])∧RecAns (svP r) r ts x F l∧Mem w w' [.sl rFld A l]
set_option maxHeartbeats 8000000 in
set_option maxRecDepth 100000 in
theorem recordT_any (r:Rul)(K W Sv A:Option Addr)(ck cw cs c:Nat)(ts:List Tch)(x:IdV)(w:World)(hR:RulIn (fun _=>False) w r K W Sv)(hT:Sl rTch (fun _=>False) w A ts)(hr:RulOk r)(ht:TchsOk ts)(hx:x.t.size≤1000000)(hU:Tabs w)(hM:MaxL w)(hq:bothF r ts=0→QOk ts)(hts:ts.length≤100) :
  Calls Tryz.prog 14 #[.agg (ruCs r K ck W cw Sv cs),.slice A ts.length c,.agg #[.int .i64 x.k,.string x.t]] w (GivesRecT r ts x w):=by
 obtain ⟨Y,hY⟩:∃ Y,Y=w.heap.size:=⟨_,rfl⟩;have T0:=(Mem.start w).newAt (ruCs r K ck W cw Sv cs) 29 Y hY;have T:Mem w _ [.loc Y (ruCs r K ck W cw Sv cs) 29,.loc (Y + 1) #[.int .i64 x.k,.string x.t] 41]:=T0.newAt #[.int .i64 x.k,.string x.t] 41 (Y + 1) (by rw [hY,World.size_alloc]);have HK:=Lib.hid (fun w' (h:Below w.heap.size w w')=>keyed_any r K W Sv A ck cw cs c ts x w' (hR.keepB h) (hT.keepB h) hr ht hx (Utf8Tabs_below hU h) (hM.below h));have Hr:=Lib.hid hr;have Hq:=Lib.hid hq;have Hts:=Lib.hid hts;clear hR hT hr ht T0 hq hts
 go_enter Tryz.func14,Tryz.ntmps14
 go_upto_region 1 with fail
 rw [← hY];clear hY;generalize (w.alloc (.cells (ruCs r K ck W cw Sv cs) 29)).alloc (.cells #[.int .i64 x.k,.string x.t] 41)=w1 at *;obtain ⟨X,hX⟩:∃ X,X=Y + 1:=⟨_,rfl⟩;rw [← hX] at T ⊢;clear hX;have l0:=(T.lv 0 rfl).all;have l1:=(T.lv 1 rfl).all;have Hk:=Lib.hid (HK.out w1 T.b)
 go_wp2_with fail
 ((with_reducible refine (Hk.out).mono ?_);rintro e w2 ⟨g0,zs,F,rfl,hl2,hc⟩)
 have T2:=T.below hl2;have hzs:∃ a b A1 n1 c1 A2 n2 c2 A3 n3 c3,zs=#[.int .i64 a,.string b,.slice A1 n1 c1,.slice A2 n2 c2,.slice A3 n3 c3]:=by
  rcases hc with ⟨_,_,rfl,_⟩ | ⟨_,_,_,rfl,_⟩ | ⟨_,_,cc,ms,_,_,⟨_,rfl,_⟩ | ⟨_,G,Xg,qs,j,q,_,_,_,rfl,_⟩⟩
  all_goals exact ⟨_,_,_,_,_,_,_,_,_,_,_,rfl⟩
 obtain ⟨a9,b9,A1,n1,c1,A2,n2,c2,A3,n3,c3,rfl⟩:=hzs;obtain ⟨Z,hZ⟩:∃ Z,Z=w2.heap.size:=⟨_,rfl⟩;have T3:Mem w (w2.alloc (.cells #[.int .i64 a9,.string b9,.slice A1 n1 c1,.slice A2 n2 c2,.slice A3 n3 c3] 101)) [.loc Y (ruCs r K ck W cw Sv cs) 29,.loc X #[.int .i64 x.k,.string x.t] 41,.loc Z #[.int .i64 a9,.string b9,.slice A1 n1 c1,.slice A2 n2 c2,.slice A3 n3 c3] 101]:=T2.newAt _ 101 Z hZ;have hb3:Below w2.heap.size w2 (w2.alloc (.cells #[.int .i64 a9,.string b9,.slice A1 n1 c1,.slice A2 n2 c2,.slice A3 n3 c3] 101)):=(Below.refl _ _).alloc (Nat.le_refl _) _;have Hc:=Lib.hid hc;clear T T2 hl2 hc Hk l0 l1 HK
 go_upto_region 2 with fail
 rw [← hZ];clear hZ;generalize w2.alloc (.cells #[.int .i64 a9,.string b9,.slice A1 n1 c1,.slice A2 n2 c2,.slice A3 n3 c3] 101)=w3 at *;by_cases hF:F=0
 ·obtain ⟨hb0,hi0,cc,ms,hp,hm,hc⟩:bothF r ts=0∧L.idFault x.k x.t=0∧∃ cc ms,IsPart ts.length (Edge r ts) cc∧IsMembs r ts cc ms∧∃ G X qs j q,g0=.pointer (some ⟨G,0,none⟩)∧Grp (fun _=>False) w2 G X r K W Sv A ck cw cs c ts qs∧FirstK ms x j q∧#[.int .i64 a9,.string b9,.slice A1 n1 c1,.slice A2 n2 c2,.slice A3 n3 c3]=mqCs q∧Sl rInt (fun _=>False) w2 q.A q.tch∧Sl rId (fun _=>False) w2 q.B q.ids∧Sl rInt (fun _=>False) w2 q.C (iL q.at'):=by
   rcases Hc.out with ⟨h1,h2,_⟩ | ⟨_,h1,h2,_⟩ | ⟨h1,h2,cc,ms,h3,h4,⟨h5,_⟩ | ⟨_,h5⟩⟩
   ·exact absurd (h2.symm.trans hF) h1
   ·exact absurd (h2.symm.trans hF) h1
   ·rw [hF] at h5;cases h5
   ·exact ⟨h1,h2,cc,ms,h3,h4,h5⟩
  subst hF;obtain ⟨G,Xg,qs,j,q,rfl,hG,hfk,hz,s1,s2,s3⟩:=hc;obtain ⟨hd,hhd,hps,hat⟩:=memb_at hm hfk.1;have hkf:=kf_first hm hfk;rw [hps] at hkf;have hz2:=congrArg Array.toList hz;simp only [List.cons.injEq,Value.int.injEq,Value.string.injEq,Value.slice.injEq,and_true,true_and] at hz2
  obtain ⟨rfl,rfl,⟨rfl,rfl,rfl⟩,⟨rfl,rfl,rfl⟩,rfl,rfl,rfl⟩:=hz2;obtain ⟨AT,hAT⟩:∃ AT,q.at'=AT:=⟨_,rfl⟩;obtain ⟨QA,hQA⟩:∃ QA,q.A=QA:=⟨_,rfl⟩;obtain ⟨QB,hQB⟩:∃ QB,q.B=QB:=⟨_,rfl⟩;obtain ⟨QC,hQC⟩:∃ QC,q.C=QC:=⟨_,rfl⟩;obtain ⟨q1,hq1⟩:∃ q1,q.tch.length=q1:=⟨_,rfl⟩;obtain ⟨q2,hq2⟩:∃ q2,q.ids.length=q2:=⟨_,rfl⟩;rw [hAT] at T3 s3 hat;rw [hQA,hQB,hQC,hq1,hq2] at T3;rw [hQC] at s3;have Ho:Hid (RtOk r ts):=RtOk.both hb0 Hr.out;have Hu:Hid (NoUp ts):=noUp_of (both_zero hb0).2;obtain ⟨hsv,hsl⟩:=rul_surv (both_zero hb0).1;have hQ:=Hq.out hb0;have hlt:∀ i∈AT,i < ts.length:=fun i hi=>by
   rw [hat] at hi;unfold partAt at hi;exact List.mem_range.1 (List.mem_filter.1 hi).1
  have htn:=Hts.out;have hal:AT.length≤ts.length:=by rw [hat];exact part_len cc ts.length hd
  have Hown:Hid (OwnAt r ts x (some AT)):=⟨cc,hp,.inr ⟨hd,hhd,hkf,by rw [hat]⟩⟩;have Hke:Hid (firstErr [bothF r ts,L.idFault x.k x.t]=0∧bothF r ts=0):=⟨key_ok hb0 hi0,hb0⟩;have hcl:(tellC ts AT).length≤100000:=by
   have h1:=tellC_len hQ.fl AT;omega
  have y2:=(T3.lv 2 rfl).all;have Hrec:=Lib.hid (record_any G Xg r K W Sv A ck cw cs c ts qs q.key.k q.key.t QA QB QC q1 q.a q2 q.b q.c AT w3 (hG.keepB hb3) hlt (by omega) (by omega) hQ.fl (s3.keepB hb3) hsv hsl (fun s hs=>Hr.out.ss s hs) (hQ.smC AT) (by omega));clear hz s1 s2 s3 hG hm hfk hps hkf hat hAT hQA hQB hQC hq1 hq2 hlt hal
  go_wp2_with fail
  ((with_reducible refine (Hrec.out).mono ?_);rintro e w5 ⟨A5,c5,l,rfl,hI,hll,M5⟩)
  have HI:=Lib.hid hI;have HM:Hid (Mem w w5 [.sl rFld A5 l]):=(((T3.join M5).del 2).del 1).del 0;have hl1:l.length≤100000:=by omega
  clear T3 M5 hI y2 Hrec;by_cases hlen:30 < l.length
  ·have Hw:Hid (Mem w w5 [.sl rFld none []]):=(HM.out.del 0).call (Below.refl _ _) _ Sl.nil (fun k e=>by cases e);clear HM
   go_wp2_with fail
   exact bodyPost_ret (results_two rfl rfl rfl) rfl ⟨none,0,[],2,rfl,.inr ⟨Hke.out.1,Hke.out.2,some AT,Hown.out,.inr ⟨AT,l,rfl,HI.out,.inl ⟨hlen,rfl,rfl⟩⟩⟩,Hw.out⟩
  ·go_wp2_with fail
   exact bodyPost_ret (results_two rfl rfl rfl) rfl ⟨A5,c5,l,0,rfl,.inr ⟨Hke.out.1,Hke.out.2,some AT,Hown.out,.inr ⟨AT,l,rfl,HI.out,.inr ⟨by omega,rfl,rfl⟩⟩⟩,HM.out⟩
 ·have h1:(F != 0)=true:=by simpa using hF
  have Hf:Hid ((firstErr [bothF r ts,L.idFault x.k x.t]≠0∧F=firstErr [bothF r ts,L.idFault x.k x.t])∨(firstErr [bothF r ts,L.idFault x.k x.t]=0∧bothF r ts=0∧OwnAt r ts x none∧F=8)):=by
   rcases Hc.out with ⟨h1,h2,_⟩ | ⟨h0,h1,h2,_⟩ | ⟨h1,h2,cc,ms,h3,h4,⟨h5,_,_,h6⟩ | ⟨h5,_⟩⟩
   ·exact .inl ⟨(key_err h1).2,by rw [(key_err h1).1];exact h2⟩
   ·exact .inl ⟨(key_err2 h0 h1).2,by rw [(key_err2 h0 h1).1];exact h2⟩
   ·exact .inr ⟨key_ok h1 h2,h1,⟨cc,h3,.inl ⟨kf_none h4 h6,rfl⟩⟩,h5⟩
   ·exact absurd h5 hF
  have HT3:=Lib.hid T3;clear T3
  go_wp2_with fail
  refine bodyPost_ret (results_two rfl rfl rfl) rfl ⟨none,0,[],F,rfl,?_,(((HT3.out.del 2).del 1).del 0).call (Below.refl _ _) _ Sl.nil (fun k e=>by cases e)⟩;rcases Hf.out with ⟨h1,h2⟩ | ⟨h1,h2,h3,h4⟩
  ·exact .inl ⟨h1,h2,rfl⟩
  ·exact .inr ⟨h1,h2,none,h3,.inl ⟨rfl,h4,rfl⟩⟩
end
end Go.Proofs.YtfdcgedcfafmcaaGreatDoor
