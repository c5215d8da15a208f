/- Several texts in one: LawTch, Joined, PsnOf, KeyFor, PsnKf. -/
import Derived.Test.YtfdcgedcfafmcaaGreatDoorPackJ
import Derived.Test.YtfdcgedcfafmcaaGreatDoorPackK
import Derived.Test.YtfdcgedcfafmcaaGreatDoorPackC
import Derived.Test.YtfdcgedcfafmcaaGreatDoorPackL
import Derived.Test.YtfdcgedcfafmcaaGreatDoorPackW
import Derived.Test.YtfdcgedcfafmcaaGreatDoorPackP
import Derived.Test.YtfdcgedcfafmcaaGreatDoorPackX
import Derived.Test.YtfdcgedcfafmcaaGreatDoorPackT
import Derived.Test.YtfdcgedcfafmcaaGreatDoorPackY
import Derived.Test.YtfdcgedcfafmcaaGreatDoorPackN
import Derived.Test.YtfdcgedcfafmcaaGreatDoorPackG
import Derived.Test.YtfdcgedcfafmcaaGreatDoorPackQ
/- The law TouchChecks walked: it returns true, and nothing that was there has turned. -/
namespace Go.Proofs.YtfdcgedcfafmcaaGreatDoor
section
open Go Go.RowKit
theorem loadAtJ {w:World}{X:Nat}{a b c d:Value}(h:LV w X #[a,b,c,d] 29):(Instr.loadAt 29 (.pointer (some ⟨X,0,none⟩))).run Tryz.prog w=.ok (.agg #[a,b,c,d]) w:=by
 have c0:=h.all
 go_simp
end
section
open Go Go.RowKit
theorem both_first (r:Rul)(ts:List Tch):firstErr [rulFault r,tchsFault ts]=bothF r ts:=by
 unfold bothF;by_cases h:rulFault r=0
 ·by_cases h2:tchsFault ts=0 <;> simp [firstErr,h,h2]
 ·simp [firstErr,h]
theorem results_ctt {P:Program}{fn:Func}{s t r:Tmp}{T:TypeId}{a:Addr}{v u x:Value}{w:World}{tmps:Array Value}(h:fn.results=#[.cell t T,.tmp s,.tmp r])(hp:tmps.getD t undef=.pointer (some a))(hs:tmps.getD s undef=u)(hr:tmps.getD r undef=x)(hl:(loadVar T a).run P w=.ok v w):(results fn tmps).run P w=.ok (.tuple #[v,u,x]) w:=by
 have hp':tmps[t]?.getD undef=.pointer (some a):=by simpa using hp
 have hs':tmps[s]?.getD undef=u:=by simpa using hs
 have hr':tmps[r]?.getD undef=x:=by simpa using hr
 simp [results,h,asAddr,hp',hs',hr',hl]
def DrawsJd (b m n:Nat)(w:World)(e:Ending)(w':World):Prop:=∃ (r:Rul) (K:Option Addr) (ck:Nat) (W:Option Addr) (cw:Nat) (Sv:Option Addr) (cs:Nat) (A:Option Addr) (c:Nat) (ts:List Tch),
 e=.returned (.tuple #[.agg (ruCs r K ck W cw Sv cs),.slice A ts.length c,.int .i64 (bothF r ts)])∧RulOk r∧TchsOk ts∧ts.length≤n∧St b m w w' [.sl rInt K r.kinds,.sl rId W r.weak,.sl rSrv Sv r.surv,.sl rTch A ts]
set_option maxHeartbeats 8000000 in
set_option maxRecDepth 100000 in
theorem joined_any (b m n B:Nat)(w:World)(hs:Strm b m w)(hm:m≤100000)(hn:n≤16)(hN:Names w)(hNb:0≠b)(hP:Pool w)(hPb:1≠b)(hB:B≤b)(hBw:B≤w.heap.size)(hT:∀ w',Below B w w'→Tabs w'∧MaxL w') :
  Calls Tryz.prog 6 #[.pointer (some ⟨b,0,none⟩),.int .i64 n] w (DrawsJd b (m + 40000) n w):=by
 have S:=(St.start hs).new' jzCs 29;replace S:St b m w (w.alloc (.cells jzCs 29)) [.loc w.heap.size jzCs 29]:=S;have HN:=Lib.hid hN;have HP:=Lib.hid hP;have HT:=Lib.hid hT;have HB:Hid (B≤b∧B≤w.heap.size):=⟨hB,hBw⟩;clear hs hN hP hT hB hBw;obtain ⟨R,hR⟩:∃ R,R=w.heap.size:=⟨_,rfl⟩;rw [← hR] at S
 go_enter Tryz.func6,Tryz.ntmps6
 go_upto_region 1 with fail
 generalize w.alloc (.cells jzCs 29)=w1 at *;rw [← hR];clear hR
 go_wp2_with fail
 ((with_reducible refine (rightRules_any b _ B _ S.g.s (by omega) (HN.out.keep S.g.k hNb) hNb (HP.out.keep S.g.k hPb) hPb HB.out.1 (Nat.le_trans HB.out.2 S.g.size) (fun w' h=>HT.out w' ((S.g.k.below HB.out.1 HB.out.2).trans h))).mono ?_);rintro e w2 ⟨r,K,ck,W,cw,Sv,cs,rfl,hr,_,T⟩)
 replace S:St b _ w w2 [.loc R jzCs 29,.sl rInt K r.kinds,.sl rId W r.weak,.sl rSrv Sv r.surv]:=S.join T;clear T;have Hr:=Lib.hid hr.ok;clear hr
 go_wp2_with fail
 ((with_reducible refine (rightTouches_any b _ n B _ S.g.s (by omega) (by omega) (HN.out.keep S.g.k hNb) hNb (HP.out.keep S.g.k hPb) hPb HB.out.1 (Nat.le_trans HB.out.2 S.g.size) (fun w' h=>HT.out w' ((S.g.k.below HB.out.1 HB.out.2).trans h))).mono ?_);rintro e w3 ⟨v2,qs,rfl,hql,hqs,T⟩)
 obtain ⟨A,c,rfl,S3⟩:=(S.join T).frz 4 rfl;have S4:=(S3.tchs 4 5 rfl rfl).del 5;obtain ⟨ts,hts⟩:∃ ts,qs.map TQ.t=ts:=⟨_,rfl⟩;have hxl:qs.length=ts.length:=by rw [← hts,List.length_map]
 have Htl:Hid (ts.length≤n):=by show _≤_;omega
 have Ht:Hid (TchsOk ts):=by
  rw [← hts];exact ⟨by rw [List.length_map];omega,fun t ht=>by
   obtain ⟨q,hq,rfl⟩:=List.mem_map.1 ht;exact (hqs q hq).1.ok⟩
 replace S4:St b _ w w3 [.loc R jzCs 29,.sl rInt K r.kinds,.sl rId W r.weak,.sl rSrv Sv r.surv,.sl rTch A (qs.map TQ.t)]:=S4;rw [hts] at S4;rw [hxl];clear S S3 T hts hxl hqs hql;obtain ⟨Y,hY⟩:∃ Y,Y=w3.heap.size:=⟨_,rfl⟩;have S:St b (m + 18000) w (w3.alloc (.cells (ruCs r K ck W cw Sv cs) 29)) [.loc R jzCs 29,.sl rInt K r.kinds,.sl rId W r.weak,.sl rSrv Sv r.surv,.sl rTch A ts,.loc Y (ruCs r K ck W cw Sv cs) 29]:=(S4.newAt (ruCs r K ck W cw Sv cs) 29 Y hY).mono (by omega);clear S4
 go_upto_region 2 with fail
 rw [← hY];clear hY;generalize w3.alloc (.cells (ruCs r K ck W cw Sv cs) 29)=w4 at *
 go_wp2_with fail
 ((with_reducible refine (flip_any b _ _ _ S.g.s (by omega) (by omega) (by omega)).mono ?_);rintro e w3 ⟨fl1,rfl,hk_w3,hs_w3⟩)
 replace S:=S.step hk_w3 hs_w3;clear hk_w3 hs_w3;cases fl1
 ·go_wp2_with fail
  ((with_reducible refine (flip_any b _ _ _ S.g.s (by omega) (by omega) (by omega)).mono ?_);rintro e w4 ⟨fl2,rfl,hk_w4,hs_w4⟩)
  replace S:=S.step hk_w4 hs_w4;clear hk_w4 hs_w4;cases fl2
  ·obtain ⟨w5,hw5⟩:∃ w5,w5=w4:=⟨_,rfl⟩;rw [← hw5] at S ⊢;clear hw5;have hTM:=HT.out w5 (S.g.k.below HB.out.1 HB.out.2);have Hc1:=Lib.hid (fun w' (h:Below w5.heap.size w5 w')=>refRules_any (fun _=>False) r K W Sv ck cw cs w' (RulIn.keepB ⟨(S.slc 1 rfl).mono (fun _ _ h=>h.elim),(S.slc 2 rfl).mono (fun _ _ h=>h.elim),(S.slc 3 rfl).mono (fun _ _ h=>h.elim)⟩ h) Hr.out (hTM.2.below h));have Hc2:=Lib.hid (fun w' (h:Below w5.heap.size w5 w')=>refTouches_any (fun _=>False) A ts c w' (((S.slc 4 rfl).mono (fun _ _ h=>h.elim)).keepB h) Ht.out (Utf8Tabs_below hTM.1 h) (hTM.2.below h));have Hb:=Lib.hid (both_first r ts);obtain ⟨F1,HF1⟩:∃ F1,Hid (rulFault r=F1):=⟨_,Lib.hid rfl⟩;obtain ⟨F2,HF2⟩:∃ F2,Hid (tchsFault ts=F2):=⟨_,Lib.hid rfl⟩;obtain ⟨F,HF⟩:∃ F,Hid (bothF r ts=F):=⟨_,Lib.hid rfl⟩;rw [HF1.out,HF2.out,HF.out] at Hb;rw [HF1.out] at Hc1;rw [HF2.out] at Hc2;clear hTM
   go_wp2_with fail
   refine wp_region_mix (fun wx=>LV wx Y (ruCs r K ck W cw Sv cs) 29) [(true,0),(true,1),(true,2),(true,4),(false,3),(false,5),(false,6),(false,7),(false,8),(true,9),(true,10)] (by kernel_rfl) (by kernel_rfl) (fun _ hd=>(S.below (hd.below _)).lv 5 rfl) (fun KK hKK wd hd=>?_);have hbd:Below w5.heap.size w5 wd:=hd.below _;replace S:=S.below (hd.below _);clear hd;refine mix_loadR (.agg (ruCs r K ck W cw Sv cs)) rfl rfl rfl rfl (fun w' h=>loadAtJ h) ?_
   repeat (refine mix_p rfl (fun K hK=>?_);go_simp;(try go_bits);(try simp (disch:=omega) only [if_pos]);(try simp (disch:=omega) only [if_neg]);(try simp (disch:=omega) only [dif_pos]);(try simp (disch:=omega) only [dif_neg]);(try go_simp);(refine hK _ ?_;clear hK K))
   refine mix_loadR (.agg (ruCs r K ck W cw Sv cs)) rfl rfl rfl rfl (fun w' h=>loadAtJ h) ?_
   repeat (refine mix_p rfl (fun K hK=>?_);go_simp;(try go_bits);(try simp (disch:=omega) only [if_pos]);(try simp (disch:=omega) only [if_neg]);(try simp (disch:=omega) only [dif_pos]);(try simp (disch:=omega) only [dif_neg]);(try go_simp);(refine hK _ ?_;clear hK K))
   refine mix_l rfl (fun Kn hK=>?_) (S.lv 5 rfl)
   go_wp2_with fail
   ((with_reducible refine (Hc1.out wd hbd).mono ?_);rintro e wa ⟨rfl,hla⟩)
   have hba:Below w5.heap.size w5 wa:=hbd.trans (hla.mono hbd.size);replace S:=S.below hla;have lva:=S.lv 5 rfl;clear hbd hla
   go_wp2_with fail
   refine ⟨lva,?_⟩;refine mix_l rfl (fun Kn hK=>?_) lva;clear lva
   go_wp2_with fail
   ((with_reducible refine (Hc2.out wa hba).mono ?_);rintro e wb ⟨rfl,hlb⟩)
   replace S:=S.below hlb;have lva:=S.lv 5 rfl;clear hba hlb
   go_wp2_with fail
   refine ⟨lva,?_⟩;refine mix_l rfl (fun Kn hK=>?_) lva;clear lva;replace S:=S.newAt #[.int .i64 F1,.int .i64 F2] 31 wb.heap.size rfl;have lva:=S.lv 5 rfl;have Hw:Hid (Calls Tryz.prog 16 #[.slice (some ⟨wb.heap.size,0,none⟩) 2 2] (wb.alloc (.cells #[.int .i64 F1,.int .i64 F2] 31)) fun e w'=>e=.returned (.int .i64 F)∧(wb.alloc (.cells #[.int .i64 F1,.int .i64 F2] 31))=w'):=by
    show Calls _ _ _ _ _;rw [← Hb.out];exact wrongOr_any wb.heap.size [F1,F2] _ (S.lv 6 rfl) (by simp)
   clear Hc1 Hc2 Hb
   go_wp2_with fail
   refine ⟨lva,?_⟩;refine mix_l rfl (fun Kn hK=>?_) lva
   go_wp2_with fail
   ((with_reducible refine (Hw.out).mono ?_);rintro e we ⟨rfl,rfl⟩)
   go_wp2_with fail
   refine ⟨lva,?_⟩;refine mix_l rfl (fun Kn hK=>?_) lva;clear lva Hw;generalize wb.alloc (.cells #[.int .i64 F1,.int .i64 F2] 31)=wc at *;have l0:=(S.lv 0 rfl).all;have S9:=(((S.set 0 0 (.slice K r.kinds.length ck) rfl).set 0 1 (.int .i64 r.most) rfl).set 0 2 (.slice W r.weak.length cw) rfl).set 0 3 (.slice Sv r.surv.length cs) rfl;have S10:St b (m + 40000) w ((((wc.setCell ⟨R,0,none⟩ (.slice K r.kinds.length ck)).setCell ⟨R,1,none⟩ (.int .i64 r.most)).setCell ⟨R,2,none⟩ (.slice W r.weak.length cw)).setCell ⟨R,3,none⟩ (.slice Sv r.surv.length cs)) [.loc R (ruCs r K ck W cw Sv cs) 29,.sl rInt K r.kinds,.sl rId W r.weak,.sl rSrv Sv r.surv,.sl rTch A ts,.loc Y (ruCs r K ck W cw Sv cs) 29]:=(S9.del 6).mono (by omega);have lva:=S10.lv 5 rfl;clear S S9
   go_wp2_with fail
   refine ⟨lva,?_⟩;clear l0 lva;generalize (((wc.setCell ⟨R,0,none⟩ (.slice K r.kinds.length ck)).setCell ⟨R,1,none⟩ (.int .i64 r.most)).setCell ⟨R,2,none⟩ (.slice W r.weak.length cw)).setCell ⟨R,3,none⟩ (.slice Sv r.surv.length cs)=wz at *
   repeat (refine mix_p rfl (fun K hK=>?_);go_simp;(try go_bits);(try simp (disch:=omega) only [if_pos]);(try simp (disch:=omega) only [if_neg]);(try simp (disch:=omega) only [dif_pos]);(try simp (disch:=omega) only [dif_neg]);(try go_simp);(refine hK _ ?_;clear hK K))
   refine mix_nil ?_;simp only [Exit.then]
   refine hKK _ _ ?_
   go_wp2_with fail
   exact bodyPost_ret (results_ctt rfl rfl rfl rfl (loadJr (S10.lv 0 rfl))) rfl ⟨r,K,ck,W,cw,Sv,cs,A,c,ts,by rw [HF.out];rfl,Hr.out,Ht.out,Htl.out,(S10.del 5).del 0⟩
  ·go_wp2_with fail
   ((with_reducible refine (touches_any b _ n _ S.g.s (by omega) (by omega) (HN.out.keep S.g.k hNb) hNb (HP.out.keep S.g.k hPb) hPb).mono ?_);rintro e w5 ⟨v2,qs,rfl,hql,hqs,T⟩)
   obtain ⟨A,c,rfl,S3⟩:=(S.join T).frz 6 rfl;have S4:=((S3.tchs 6 7 rfl rfl).del 7).del 4;clear Ht Htl;obtain ⟨ts,hts⟩:∃ ts,qs.map TQ.t=ts:=⟨_,rfl⟩;have hxl:qs.length=ts.length:=by rw [← hts,List.length_map]
   have Htl:Hid (ts.length≤n):=by show _≤_;omega
   have Ht:Hid (TchsOk ts):=by
    rw [← hts];exact ⟨by rw [List.length_map];omega,fun t ht=>by
     obtain ⟨q,hq,rfl⟩:=List.mem_map.1 ht;exact (hqs q hq).ok⟩
   replace S4:St b _ w w5 [.loc R jzCs 29,.sl rInt K r.kinds,.sl rId W r.weak,.sl rSrv Sv r.surv,.loc Y (ruCs r K ck W cw Sv cs) 29,.sl rTch A (qs.map TQ.t)]:=S4;rw [hts] at S4;rw [hxl];clear S S3 T hts hxl hqs hql;have S:St b _ w w5 [.loc R jzCs 29,.sl rInt K r.kinds,.sl rId W r.weak,.sl rSrv Sv r.surv,.sl rTch A ts,.loc Y (ruCs r K ck W cw Sv cs) 29]:=S4.perm (.cons _ (.cons _ (.cons _ (.cons _ (.swap _ _ _)))));clear S4;have hTM:=HT.out w5 (S.g.k.below HB.out.1 HB.out.2);have Hc1:=Lib.hid (fun w' (h:Below w5.heap.size w5 w')=>refRules_any (fun _=>False) r K W Sv ck cw cs w' (RulIn.keepB ⟨(S.slc 1 rfl).mono (fun _ _ h=>h.elim),(S.slc 2 rfl).mono (fun _ _ h=>h.elim),(S.slc 3 rfl).mono (fun _ _ h=>h.elim)⟩ h) Hr.out (hTM.2.below h));have Hc2:=Lib.hid (fun w' (h:Below w5.heap.size w5 w')=>refTouches_any (fun _=>False) A ts c w' (((S.slc 4 rfl).mono (fun _ _ h=>h.elim)).keepB h) Ht.out (Utf8Tabs_below hTM.1 h) (hTM.2.below h));have Hb:=Lib.hid (both_first r ts);obtain ⟨F1,HF1⟩:∃ F1,Hid (rulFault r=F1):=⟨_,Lib.hid rfl⟩;obtain ⟨F2,HF2⟩:∃ F2,Hid (tchsFault ts=F2):=⟨_,Lib.hid rfl⟩;obtain ⟨F,HF⟩:∃ F,Hid (bothF r ts=F):=⟨_,Lib.hid rfl⟩;rw [HF1.out,HF2.out,HF.out] at Hb;rw [HF1.out] at Hc1;rw [HF2.out] at Hc2;clear hTM
   go_wp2_with fail
   refine wp_region_mix (fun wx=>LV wx Y (ruCs r K ck W cw Sv cs) 29) [(true,0),(true,1),(true,2),(true,4),(false,3),(false,5),(false,6),(false,7),(false,8),(true,9),(true,10)] (by kernel_rfl) (by kernel_rfl) (fun _ hd=>(S.below (hd.below _)).lv 5 rfl) (fun KK hKK wd hd=>?_);have hbd:Below w5.heap.size w5 wd:=hd.below _;replace S:=S.below (hd.below _);clear hd;refine mix_loadR (.agg (ruCs r K ck W cw Sv cs)) rfl rfl rfl rfl (fun w' h=>loadAtJ h) ?_
   repeat (refine mix_p rfl (fun K hK=>?_);go_simp;(try go_bits);(try simp (disch:=omega) only [if_pos]);(try simp (disch:=omega) only [if_neg]);(try simp (disch:=omega) only [dif_pos]);(try simp (disch:=omega) only [dif_neg]);(try go_simp);(refine hK _ ?_;clear hK K))
   refine mix_loadR (.agg (ruCs r K ck W cw Sv cs)) rfl rfl rfl rfl (fun w' h=>loadAtJ h) ?_
   repeat (refine mix_p rfl (fun K hK=>?_);go_simp;(try go_bits);(try simp (disch:=omega) only [if_pos]);(try simp (disch:=omega) only [if_neg]);(try simp (disch:=omega) only [dif_pos]);(try simp (disch:=omega) only [dif_neg]);(try go_simp);(refine hK _ ?_;clear hK K))
   refine mix_l rfl (fun Kn hK=>?_) (S.lv 5 rfl)
   go_wp2_with fail
   ((with_reducible refine (Hc1.out wd hbd).mono ?_);rintro e wa ⟨rfl,hla⟩)
   have hba:Below w5.heap.size w5 wa:=hbd.trans (hla.mono hbd.size);replace S:=S.below hla;have lva:=S.lv 5 rfl;clear hbd hla
   go_wp2_with fail
   refine ⟨lva,?_⟩;refine mix_l rfl (fun Kn hK=>?_) lva;clear lva
   go_wp2_with fail
   ((with_reducible refine (Hc2.out wa hba).mono ?_);rintro e wb ⟨rfl,hlb⟩)
   replace S:=S.below hlb;have lva:=S.lv 5 rfl;clear hba hlb
   go_wp2_with fail
   refine ⟨lva,?_⟩;refine mix_l rfl (fun Kn hK=>?_) lva;clear lva;replace S:=S.newAt #[.int .i64 F1,.int .i64 F2] 31 wb.heap.size rfl;have lva:=S.lv 5 rfl;have Hw:Hid (Calls Tryz.prog 16 #[.slice (some ⟨wb.heap.size,0,none⟩) 2 2] (wb.alloc (.cells #[.int .i64 F1,.int .i64 F2] 31)) fun e w'=>e=.returned (.int .i64 F)∧(wb.alloc (.cells #[.int .i64 F1,.int .i64 F2] 31))=w'):=by
    show Calls _ _ _ _ _;rw [← Hb.out];exact wrongOr_any wb.heap.size [F1,F2] _ (S.lv 6 rfl) (by simp)
   clear Hc1 Hc2 Hb
   go_wp2_with fail
   refine ⟨lva,?_⟩;refine mix_l rfl (fun Kn hK=>?_) lva
   go_wp2_with fail
   ((with_reducible refine (Hw.out).mono ?_);rintro e we ⟨rfl,rfl⟩)
   go_wp2_with fail
   refine ⟨lva,?_⟩;refine mix_l rfl (fun Kn hK=>?_) lva;clear lva Hw;generalize wb.alloc (.cells #[.int .i64 F1,.int .i64 F2] 31)=wc at *;have l0:=(S.lv 0 rfl).all;have S9:=(((S.set 0 0 (.slice K r.kinds.length ck) rfl).set 0 1 (.int .i64 r.most) rfl).set 0 2 (.slice W r.weak.length cw) rfl).set 0 3 (.slice Sv r.surv.length cs) rfl;have S10:St b (m + 40000) w ((((wc.setCell ⟨R,0,none⟩ (.slice K r.kinds.length ck)).setCell ⟨R,1,none⟩ (.int .i64 r.most)).setCell ⟨R,2,none⟩ (.slice W r.weak.length cw)).setCell ⟨R,3,none⟩ (.slice Sv r.surv.length cs)) [.loc R (ruCs r K ck W cw Sv cs) 29,.sl rInt K r.kinds,.sl rId W r.weak,.sl rSrv Sv r.surv,.sl rTch A ts,.loc Y (ruCs r K ck W cw Sv cs) 29]:=(S9.del 6).mono (by omega);have lva:=S10.lv 5 rfl;clear S S9
   go_wp2_with fail
   refine ⟨lva,?_⟩;clear l0 lva;generalize (((wc.setCell ⟨R,0,none⟩ (.slice K r.kinds.length ck)).setCell ⟨R,1,none⟩ (.int .i64 r.most)).setCell ⟨R,2,none⟩ (.slice W r.weak.length cw)).setCell ⟨R,3,none⟩ (.slice Sv r.surv.length cs)=wz at *
   repeat (refine mix_p rfl (fun K hK=>?_);go_simp;(try go_bits);(try simp (disch:=omega) only [if_pos]);(try simp (disch:=omega) only [if_neg]);(try simp (disch:=omega) only [dif_pos]);(try simp (disch:=omega) only [dif_neg]);(try go_simp);(refine hK _ ?_;clear hK K))
   refine mix_nil ?_;simp only [Exit.then]
   refine hKK _ _ ?_
   go_wp2_with fail
   exact bodyPost_ret (results_ctt rfl rfl rfl rfl (loadJr (S10.lv 0 rfl))) rfl ⟨r,K,ck,W,cw,Sv,cs,A,c,ts,by rw [HF.out];rfl,Hr.out,Ht.out,Htl.out,(S10.del 5).del 0⟩
 ·go_wp2_with fail
  ((with_reducible refine (joinRules_any b _ _ S.g.s (by omega) (HN.out.keep S.g.k hNb) hNb (HP.out.keep S.g.k hPb) hPb).mono ?_);rintro e w4 ⟨r,K,ck,W,cw,Sv,cs,rfl,hr,T⟩)
  have S2:=(((S.join T).del 3).del 2).del 1;replace S2:St b (m + 20000) w w4 [.loc R jzCs 29,.sl rTch A ts,.loc Y _ 29,.sl rInt K r.kinds,.sl rId W r.weak,.sl rSrv Sv r.surv]:=S2.mono (by omega);have l0:=(S2.lv 2 rfl).all;have S9:=(((S2.set 2 0 (.slice K r.kinds.length ck) rfl).set 2 1 (.int .i64 r.most) rfl).set 2 2 (.slice W r.weak.length cw) rfl).set 2 3 (.slice Sv r.surv.length cs) rfl;clear S S2 T Hr;have Hr:=Lib.hid hr.ok;clear hr
  go_upto_region 4 with fail
  clear l0;have S:St b (m + 20000) w _ [.loc R jzCs 29,.sl rInt K r.kinds,.sl rId W r.weak,.sl rSrv Sv r.surv,.sl rTch A ts,.loc Y (ruCs r K ck W cw Sv cs) 29]:=S9.perm (.cons _ (List.perm_append_comm (l₁:=[_,_]) (l₂:=[_,_,_])));clear S9;generalize (((w4.setCell ⟨Y,0,none⟩ (.slice K r.kinds.length ck)).setCell ⟨Y,1,none⟩ (.int .i64 r.most)).setCell ⟨Y,2,none⟩ (.slice W r.weak.length cw)).setCell ⟨Y,3,none⟩ (.slice Sv r.surv.length cs)=w9 at *
  go_wp2_with fail
  ((with_reducible refine (flip_any b _ _ _ S.g.s (by omega) (by omega) (by omega)).mono ?_);rintro e w4 ⟨fl2,rfl,hk_w4,hs_w4⟩)
  replace S:=S.step hk_w4 hs_w4;clear hk_w4 hs_w4;cases fl2
  ·obtain ⟨w5,hw5⟩:∃ w5,w5=w4:=⟨_,rfl⟩;rw [← hw5] at S ⊢;clear hw5;have hTM:=HT.out w5 (S.g.k.below HB.out.1 HB.out.2);have Hc1:=Lib.hid (fun w' (h:Below w5.heap.size w5 w')=>refRules_any (fun _=>False) r K W Sv ck cw cs w' (RulIn.keepB ⟨(S.slc 1 rfl).mono (fun _ _ h=>h.elim),(S.slc 2 rfl).mono (fun _ _ h=>h.elim),(S.slc 3 rfl).mono (fun _ _ h=>h.elim)⟩ h) Hr.out (hTM.2.below h));have Hc2:=Lib.hid (fun w' (h:Below w5.heap.size w5 w')=>refTouches_any (fun _=>False) A ts c w' (((S.slc 4 rfl).mono (fun _ _ h=>h.elim)).keepB h) Ht.out (Utf8Tabs_below hTM.1 h) (hTM.2.below h));have Hb:=Lib.hid (both_first r ts);obtain ⟨F1,HF1⟩:∃ F1,Hid (rulFault r=F1):=⟨_,Lib.hid rfl⟩;obtain ⟨F2,HF2⟩:∃ F2,Hid (tchsFault ts=F2):=⟨_,Lib.hid rfl⟩;obtain ⟨F,HF⟩:∃ F,Hid (bothF r ts=F):=⟨_,Lib.hid rfl⟩;rw [HF1.out,HF2.out,HF.out] at Hb;rw [HF1.out] at Hc1;rw [HF2.out] at Hc2;clear hTM
   go_wp2_with fail
   refine wp_region_mix (fun wx=>LV wx Y (ruCs r K ck W cw Sv cs) 29) [(true,0),(true,1),(true,2),(true,4),(false,3),(false,5),(false,6),(false,7),(false,8),(true,9),(true,10)] (by kernel_rfl) (by kernel_rfl) (fun _ hd=>(S.below (hd.below _)).lv 5 rfl) (fun KK hKK wd hd=>?_);have hbd:Below w5.heap.size w5 wd:=hd.below _;replace S:=S.below (hd.below _);clear hd;refine mix_loadR (.agg (ruCs r K ck W cw Sv cs)) rfl rfl rfl rfl (fun w' h=>loadAtJ h) ?_
   repeat (refine mix_p rfl (fun K hK=>?_);go_simp;(try go_bits);(try simp (disch:=omega) only [if_pos]);(try simp (disch:=omega) only [if_neg]);(try simp (disch:=omega) only [dif_pos]);(try simp (disch:=omega) only [dif_neg]);(try go_simp);(refine hK _ ?_;clear hK K))
   refine mix_loadR (.agg (ruCs r K ck W cw Sv cs)) rfl rfl rfl rfl (fun w' h=>loadAtJ h) ?_
   repeat (refine mix_p rfl (fun K hK=>?_);go_simp;(try go_bits);(try simp (disch:=omega) only [if_pos]);(try simp (disch:=omega) only [if_neg]);(try simp (disch:=omega) only [dif_pos]);(try simp (disch:=omega) only [dif_neg]);(try go_simp);(refine hK _ ?_;clear hK K))
   refine mix_l rfl (fun Kn hK=>?_) (S.lv 5 rfl)
   go_wp2_with fail
   ((with_reducible refine (Hc1.out wd hbd).mono ?_);rintro e wa ⟨rfl,hla⟩)
   have hba:Below w5.heap.size w5 wa:=hbd.trans (hla.mono hbd.size);replace S:=S.below hla;have lva:=S.lv 5 rfl;clear hbd hla
   go_wp2_with fail
   refine ⟨lva,?_⟩;refine mix_l rfl (fun Kn hK=>?_) lva;clear lva
   go_wp2_with fail
   ((with_reducible refine (Hc2.out wa hba).mono ?_);rintro e wb ⟨rfl,hlb⟩)
   replace S:=S.below hlb;have lva:=S.lv 5 rfl;clear hba hlb
   go_wp2_with fail
   refine ⟨lva,?_⟩;refine mix_l rfl (fun Kn hK=>?_) lva;clear lva;replace S:=S.newAt #[.int .i64 F1,.int .i64 F2] 31 wb.heap.size rfl;have lva:=S.lv 5 rfl;have Hw:Hid (Calls Tryz.prog 16 #[.slice (some ⟨wb.heap.size,0,none⟩) 2 2] (wb.alloc (.cells #[.int .i64 F1,.int .i64 F2] 31)) fun e w'=>e=.returned (.int .i64 F)∧(wb.alloc (.cells #[.int .i64 F1,.int .i64 F2] 31))=w'):=by
    show Calls _ _ _ _ _;rw [← Hb.out];exact wrongOr_any wb.heap.size [F1,F2] _ (S.lv 6 rfl) (by simp)
   clear Hc1 Hc2 Hb
   go_wp2_with fail
   refine ⟨lva,?_⟩;refine mix_l rfl (fun Kn hK=>?_) lva
   go_wp2_with fail
   ((with_reducible refine (Hw.out).mono ?_);rintro e we ⟨rfl,rfl⟩)
   go_wp2_with fail
   refine ⟨lva,?_⟩;refine mix_l rfl (fun Kn hK=>?_) lva;clear lva Hw;generalize wb.alloc (.cells #[.int .i64 F1,.int .i64 F2] 31)=wc at *;have l0:=(S.lv 0 rfl).all;have S9:=(((S.set 0 0 (.slice K r.kinds.length ck) rfl).set 0 1 (.int .i64 r.most) rfl).set 0 2 (.slice W r.weak.length cw) rfl).set 0 3 (.slice Sv r.surv.length cs) rfl;have S10:St b (m + 40000) w ((((wc.setCell ⟨R,0,none⟩ (.slice K r.kinds.length ck)).setCell ⟨R,1,none⟩ (.int .i64 r.most)).setCell ⟨R,2,none⟩ (.slice W r.weak.length cw)).setCell ⟨R,3,none⟩ (.slice Sv r.surv.length cs)) [.loc R (ruCs r K ck W cw Sv cs) 29,.sl rInt K r.kinds,.sl rId W r.weak,.sl rSrv Sv r.surv,.sl rTch A ts,.loc Y (ruCs r K ck W cw Sv cs) 29]:=(S9.del 6).mono (by omega);have lva:=S10.lv 5 rfl;clear S S9
   go_wp2_with fail
   refine ⟨lva,?_⟩;clear l0 lva;generalize (((wc.setCell ⟨R,0,none⟩ (.slice K r.kinds.length ck)).setCell ⟨R,1,none⟩ (.int .i64 r.most)).setCell ⟨R,2,none⟩ (.slice W r.weak.length cw)).setCell ⟨R,3,none⟩ (.slice Sv r.surv.length cs)=wz at *
   repeat (refine mix_p rfl (fun K hK=>?_);go_simp;(try go_bits);(try simp (disch:=omega) only [if_pos]);(try simp (disch:=omega) only [if_neg]);(try simp (disch:=omega) only [dif_pos]);(try simp (disch:=omega) only [dif_neg]);(try go_simp);(refine hK _ ?_;clear hK K))
   refine mix_nil ?_;simp only [Exit.then]
   refine hKK _ _ ?_
   go_wp2_with fail
   exact bodyPost_ret (results_ctt rfl rfl rfl rfl (loadJr (S10.lv 0 rfl))) rfl ⟨r,K,ck,W,cw,Sv,cs,A,c,ts,by rw [HF.out];rfl,Hr.out,Ht.out,Htl.out,(S10.del 5).del 0⟩
  ·go_wp2_with fail
   ((with_reducible refine (touches_any b _ n _ S.g.s (by omega) (by omega) (HN.out.keep S.g.k hNb) hNb (HP.out.keep S.g.k hPb) hPb).mono ?_);rintro e w5 ⟨v2,qs,rfl,hql,hqs,T⟩)
   obtain ⟨A,c,rfl,S3⟩:=(S.join T).frz 6 rfl;have S4:=((S3.tchs 6 7 rfl rfl).del 7).del 4;clear Ht Htl;obtain ⟨ts,hts⟩:∃ ts,qs.map TQ.t=ts:=⟨_,rfl⟩;have hxl:qs.length=ts.length:=by rw [← hts,List.length_map]
   have Htl:Hid (ts.length≤n):=by show _≤_;omega
   have Ht:Hid (TchsOk ts):=by
    rw [← hts];exact ⟨by rw [List.length_map];omega,fun t ht=>by
     obtain ⟨q,hq,rfl⟩:=List.mem_map.1 ht;exact (hqs q hq).ok⟩
   replace S4:St b _ w w5 [.loc R jzCs 29,.sl rInt K r.kinds,.sl rId W r.weak,.sl rSrv Sv r.surv,.loc Y (ruCs r K ck W cw Sv cs) 29,.sl rTch A (qs.map TQ.t)]:=S4;rw [hts] at S4;rw [hxl];clear S S3 T hts hxl hqs hql;have S:St b _ w w5 [.loc R jzCs 29,.sl rInt K r.kinds,.sl rId W r.weak,.sl rSrv Sv r.surv,.sl rTch A ts,.loc Y (ruCs r K ck W cw Sv cs) 29]:=S4.perm (.cons _ (.cons _ (.cons _ (.cons _ (.swap _ _ _)))));clear S4;have hTM:=HT.out w5 (S.g.k.below HB.out.1 HB.out.2);have Hc1:=Lib.hid (fun w' (h:Below w5.heap.size w5 w')=>refRules_any (fun _=>False) r K W Sv ck cw cs w' (RulIn.keepB ⟨(S.slc 1 rfl).mono (fun _ _ h=>h.elim),(S.slc 2 rfl).mono (fun _ _ h=>h.elim),(S.slc 3 rfl).mono (fun _ _ h=>h.elim)⟩ h) Hr.out (hTM.2.below h));have Hc2:=Lib.hid (fun w' (h:Below w5.heap.size w5 w')=>refTouches_any (fun _=>False) A ts c w' (((S.slc 4 rfl).mono (fun _ _ h=>h.elim)).keepB h) Ht.out (Utf8Tabs_below hTM.1 h) (hTM.2.below h));have Hb:=Lib.hid (both_first r ts);obtain ⟨F1,HF1⟩:∃ F1,Hid (rulFault r=F1):=⟨_,Lib.hid rfl⟩;obtain ⟨F2,HF2⟩:∃ F2,Hid (tchsFault ts=F2):=⟨_,Lib.hid rfl⟩;obtain ⟨F,HF⟩:∃ F,Hid (bothF r ts=F):=⟨_,Lib.hid rfl⟩;rw [HF1.out,HF2.out,HF.out] at Hb;rw [HF1.out] at Hc1;rw [HF2.out] at Hc2;clear hTM
   go_wp2_with fail
   refine wp_region_mix (fun wx=>LV wx Y (ruCs r K ck W cw Sv cs) 29) [(true,0),(true,1),(true,2),(true,4),(false,3),(false,5),(false,6),(false,7),(false,8),(true,9),(true,10)] (by kernel_rfl) (by kernel_rfl) (fun _ hd=>(S.below (hd.below _)).lv 5 rfl) (fun KK hKK wd hd=>?_);have hbd:Below w5.heap.size w5 wd:=hd.below _;replace S:=S.below (hd.below _);clear hd;refine mix_loadR (.agg (ruCs r K ck W cw Sv cs)) rfl rfl rfl rfl (fun w' h=>loadAtJ h) ?_
   repeat (refine mix_p rfl (fun K hK=>?_);go_simp;(try go_bits);(try simp (disch:=omega) only [if_pos]);(try simp (disch:=omega) only [if_neg]);(try simp (disch:=omega) only [dif_pos]);(try simp (disch:=omega) only [dif_neg]);(try go_simp);(refine hK _ ?_;clear hK K))
   refine mix_loadR (.agg (ruCs r K ck W cw Sv cs)) rfl rfl rfl rfl (fun w' h=>loadAtJ h) ?_
   repeat (refine mix_p rfl (fun K hK=>?_);go_simp;(try go_bits);(try simp (disch:=omega) only [if_pos]);(try simp (disch:=omega) only [if_neg]);(try simp (disch:=omega) only [dif_pos]);(try simp (disch:=omega) only [dif_neg]);(try go_simp);(refine hK _ ?_;clear hK K))
   refine mix_l rfl (fun Kn hK=>?_) (S.lv 5 rfl)
   go_wp2_with fail
   ((with_reducible refine (Hc1.out wd hbd).mono ?_);rintro e wa ⟨rfl,hla⟩)
   have hba:Below w5.heap.size w5 wa:=hbd.trans (hla.mono hbd.size);replace S:=S.below hla;have lva:=S.lv 5 rfl;clear hbd hla
   go_wp2_with fail
   refine ⟨lva,?_⟩;refine mix_l rfl (fun Kn hK=>?_) lva;clear lva
   go_wp2_with fail
   ((with_reducible refine (Hc2.out wa hba).mono ?_);rintro e wb ⟨rfl,hlb⟩)
   replace S:=S.below hlb;have lva:=S.lv 5 rfl;clear hba hlb
   go_wp2_with fail
   refine ⟨lva,?_⟩;refine mix_l rfl (fun Kn hK=>?_) lva;clear lva;replace S:=S.newAt #[.int .i64 F1,.int .i64 F2] 31 wb.heap.size rfl;have lva:=S.lv 5 rfl;have Hw:Hid (Calls Tryz.prog 16 #[.slice (some ⟨wb.heap.size,0,none⟩) 2 2] (wb.alloc (.cells #[.int .i64 F1,.int .i64 F2] 31)) fun e w'=>e=.returned (.int .i64 F)∧(wb.alloc (.cells #[.int .i64 F1,.int .i64 F2] 31))=w'):=by
    show Calls _ _ _ _ _;rw [← Hb.out];exact wrongOr_any wb.heap.size [F1,F2] _ (S.lv 6 rfl) (by simp)
   clear Hc1 Hc2 Hb
   go_wp2_with fail
   refine ⟨lva,?_⟩;refine mix_l rfl (fun Kn hK=>?_) lva
   go_wp2_with fail
   ((with_reducible refine (Hw.out).mono ?_);rintro e we ⟨rfl,rfl⟩)
   go_wp2_with fail
   refine ⟨lva,?_⟩;refine mix_l rfl (fun Kn hK=>?_) lva;clear lva Hw;generalize wb.alloc (.cells #[.int .i64 F1,.int .i64 F2] 31)=wc at *;have l0:=(S.lv 0 rfl).all;have S9:=(((S.set 0 0 (.slice K r.kinds.length ck) rfl).set 0 1 (.int .i64 r.most) rfl).set 0 2 (.slice W r.weak.length cw) rfl).set 0 3 (.slice Sv r.surv.length cs) rfl;have S10:St b (m + 40000) w ((((wc.setCell ⟨R,0,none⟩ (.slice K r.kinds.length ck)).setCell ⟨R,1,none⟩ (.int .i64 r.most)).setCell ⟨R,2,none⟩ (.slice W r.weak.length cw)).setCell ⟨R,3,none⟩ (.slice Sv r.surv.length cs)) [.loc R (ruCs r K ck W cw Sv cs) 29,.sl rInt K r.kinds,.sl rId W r.weak,.sl rSrv Sv r.surv,.sl rTch A ts,.loc Y (ruCs r K ck W cw Sv cs) 29]:=(S9.del 6).mono (by omega);have lva:=S10.lv 5 rfl;clear S S9
   go_wp2_with fail
   refine ⟨lva,?_⟩;clear l0 lva;generalize (((wc.setCell ⟨R,0,none⟩ (.slice K r.kinds.length ck)).setCell ⟨R,1,none⟩ (.int .i64 r.most)).setCell ⟨R,2,none⟩ (.slice W r.weak.length cw)).setCell ⟨R,3,none⟩ (.slice Sv r.surv.length cs)=wz at *
   repeat (refine mix_p rfl (fun K hK=>?_);go_simp;(try go_bits);(try simp (disch:=omega) only [if_pos]);(try simp (disch:=omega) only [if_neg]);(try simp (disch:=omega) only [dif_pos]);(try simp (disch:=omega) only [dif_neg]);(try go_simp);(refine hK _ ?_;clear hK K))
   refine mix_nil ?_;simp only [Exit.then]
   refine hKK _ _ ?_
   go_wp2_with fail
   exact bodyPost_ret (results_ctt rfl rfl rfl rfl (loadJr (S10.lv 0 rfl))) rfl ⟨r,K,ck,W,cw,Sv,cs,A,c,ts,by rw [HF.out];rfl,Hr.out,Ht.out,Htl.out,(S10.del 5).del 0⟩
end
section
open Go Go.RowKit
def ofP (P:List Psn)(x:IdV):Option Psn:=P.find? (fun p=>decide (x∈p.ids))
abbrev pzCs:Array Value:=#[.int .i64 0,.string ⟨#[]⟩,.slice none 0 0,.slice none 0 0]
theorem loadPsn {w:World}{X:Nat}{a b c d:Value}(h:LV w X #[a,b,c,d] 98):(loadVar 98 ⟨X,0,none⟩).run Tryz.prog w=.ok (.agg #[a,b,c,d]) w:=by
 have c0:=h.all
 go_simp
def IsOf (N:Nat→Prop)(P:List Psn)(x:IdV)(w':World)(cs:Array Value)(b:Bool):Prop :=
 (ofP P x=none∧b=false∧cs=pzCs)∨∃ p A a B b',ofP P x=some p∧b=true∧cs=psCs p A a B b'∧Sl rInt N w' A p.tch∧Sl rId N w' B p.ids
def GivesOf (N:Nat→Prop)(P:List Psn)(x:IdV)(w:World)(e:Ending)(w':World):Prop :=
 ∃ cs b,e=.returned (.tuple #[.agg cs,.bool b])∧Below w.heap.size w w'∧IsOf N P x w' cs b
end
section
open Go Go.RowKit
theorem loadIdK {w:World}{X:Nat}{a b:Value}(h:LV w X #[a,b] 41):(loadVar 41 ⟨X,0,none⟩).run Tryz.prog w=.ok (.agg #[a,b]) w:=by
 have c0:=h.all
 go_simp
def DrawsKey (b m:Nat)(w:World)(e:Ending)(w':World):Prop:=∃ x:IdV,x.t.size≤1000000∧e=.returned (.agg #[.int .i64 x.k,.string x.t])∧SK b w w'∧Strm b m w'
theorem key_small {r:Rul}{ts:List Tch}{P:List Psn}(hP:IsPsns r ts P)(ht:TchsOk ts):∀ p∈P,p.key.t.size≤1000000:=fun p hp=>by
 obtain ⟨c,_,rfl⟩:=hP;unfold psns at hp;obtain ⟨i,_,rfl⟩:=List.mem_map.1 hp;unfold psnAt;cases hi:ts[i]? with
 | none=>exact Nat.zero_le 1000000
 | some t =>
  have htm:=(ht.ok t (List.mem_of_getElem? hi)).it;show (keyP r ts t).t.size≤_;unfold keyP;cases hf:t.ids.find? (joinsP r ts) with
  | some x=>exact htm x (List.mem_of_find?_eq_some hf)
  | none =>
   cases hd:t.ids with
   | nil=>exact Nat.zero_le 1000000
   | cons x l=>exact htm x (by rw [hd];exact List.mem_cons_self ..)
set_option maxHeartbeats 8000000 in
set_option maxRecDepth 100000 in
theorem keyFor_any (b m:Nat)(r:Rul)(K W S A:Option Addr)(ck cw cs c:Nat)(ts:List Tch)(F:Int)(w:World)(hs:Strm b m w)(hm:m≤100000000)(hP:Pool w)(hPb:1≠b)(ho:F=0→RtOk r ts)(ht:TchsOk ts)
  (hRk:∀ w',SK b w w'→RulIn (fun _=>False) w' r K W S∧Sl rTch (fun _=>False) w' A ts) :
  Calls Tryz.prog 12 #[.pointer (some ⟨b,0,none⟩),.agg (ruCs r K ck W cw S cs),.slice A ts.length c,.int .i64 F] w (DrawsKey b (m + 13) w):=by
 obtain ⟨Y,hY⟩:∃ Y,Y=w.heap.size:=⟨_,rfl⟩;have S1:=(St.start hs).newAt (ruCs r K ck W cw S cs) 29 Y hY;have S0:St b m w _ [.loc Y (ruCs r K ck W cw S cs) 29,.loc (Y + 1) #[.int .i64 0,.string ⟨#[]⟩] 41]:=S1.newAt #[.int .i64 0,.string ⟨#[]⟩] 41 (Y + 1) (by rw [hY,World.size_alloc]);have HP:=Lib.hid hP;have HRk:=Lib.hid hRk;have Ho:=Lib.hid ho;have Ht:=Lib.hid ht;clear S1 hs hP hRk ho ht
 go_enter Tryz.func12,Tryz.ntmps12
 go_upto_region 1 with fail
 rw [← hY];clear hY;generalize (w.alloc (.cells (ruCs r K ck W cw S cs) 29)).alloc (.cells #[.int .i64 0,.string ⟨#[]⟩] 41)=w1 at *;obtain ⟨X,hX⟩:∃ X,X=Y + 1:=⟨_,rfl⟩;rw [← hX] at S0 ⊢;clear hX
 go_cut [16] (fun s16 wx=>∃ bo:Bool,s16=.bool bo∧Hid (bo=true→F=0)∧St b (m + 1) w wx [.loc Y (ruCs r K ck W cw S cs) 29,.loc X #[.int .i64 0,.string ⟨#[]⟩] 41])
 case first =>
  by_cases hF:F=0
  ·subst hF
   go_wp2_with fail
   ((with_reducible refine (flip_any b _ 4 _ S0.g.s (by omega) (by omega) (by omega)).mono ?_);rintro e w2 ⟨bo,rfl,hk,hs⟩)
   have S2:=S0.step hk hs;clear S0 hk hs
   go_wp2_with fail
   go_meet
   exact ⟨_,rfl,(by first | exact trivial | exact fun _=>rfl | exact fun _=>trivial),S2⟩
  ·have h1:(F==0)=false:=by simpa using hF
   go_wp2_with fail
   go_meet
   exact ⟨false,rfl,(fun h=>by cases h),S0.mono (by omega)⟩
 case rest =>
  clear S0;obtain ⟨bo,rfl,Hbo,S2⟩:=hcut;generalize wc=w2 at *
  go_upto_if 16 with fail
  cases bo
  ·have Hid1:=Lib.hid (id_any b (m + 1) w2 S2.g.s (by omega) (HP.out.keep S2.g.k hPb) hPb)
   go_wp2_with fail
   ((with_reducible refine (Hid1.out).mono ?_);rintro e w3 ⟨k,t,hkt,rfl,hk,hs⟩)
   have S3:=S2.step hk hs;have l1:=(S3.lv 1 rfl).all;have S9:=(S3.set 1 0 (.int .i64 k) rfl).set 1 1 (.string t) rfl;clear S2 hk hs Hid1
   go_wp2_with fail
   exact bodyPost_ret (results_cell1 rfl rfl (loadIdK (S9.lv 1 rfl))) rfl ⟨⟨k,t⟩,by show t.size≤_;omega,rfl,S9.g.k,(S9.mono (by omega)).g.s⟩
  ·have hF:=Hbo.out rfl;subst hF;have Ho2:Hid (RtOk r ts):=Ho.out rfl;have l0:=(S2.lv 0 rfl).all;have Hps:=Lib.hid (refPersons_any (fun _=>False) r K W S A ck cw cs c ts w2 (HRk.out w2 S2.g.k).1 (HRk.out w2 S2.g.k).2 Ho2.out)
   go_wp2_with fail
   ((with_reducible refine (Hps.out).mono ?_);rintro e w3 ⟨A3,c3,P,rfl,hP3,T⟩)
   obtain ⟨wb,_,M,back⟩:=S2.viaMem;have S3:St b (m + 1) w w3 [.loc Y (ruCs r K ck W cw S cs) 29,.loc X #[.int .i64 0,.string ⟨#[]⟩] 41,.sl rPsn A3 P]:=back _ _ (M.join T);have Hks:=Lib.hid (key_small hP3 Ht.out);have hpl:=(psns_small Ho2.out hP3).1;clear back M T Hps S2 l0 hP3;by_cases h0:0 < P.length
   ·have H0:=Lib.hid h0
    go_wp2_with fail
    ((with_reducible refine (next_any b _ P.length _ S3.g.s (by omega) (by omega) (by omega)).mono ?_);rintro e w4 ⟨i,i0,i1,rfl,hk,hs⟩)
    obtain ⟨i,rfl⟩:=Int.eq_ofNat_of_zero_le i0;have hil:i < P.length:=by omega
    have S4:=S3.step hk hs;obtain ⟨p,hp⟩:∃ p,P[i]? =some p:=⟨_,List.getElem?_eq_getElem hil⟩;obtain ⟨b1,o1,At,at',Ai,ai,rfl,hb1,c0,c1,c2,c3,s1,s2⟩:=(S4.slc 2 rfl).psn i p hp;have Hkp:=Lib.hid (Hks.out p (List.mem_of_getElem? hp));have l1:=(S4.lv 1 rfl).all;have S9:=(S4.set 1 0 (.int .i64 p.key.k) rfl).set 1 1 (.string p.key.t) rfl;clear S3 hk hs hp s1 s2 i0 i1
    go_wp2_with fail
    exact bodyPost_ret (results_cell1 rfl rfl (loadIdK (S9.lv 1 rfl))) rfl ⟨p.key,Hkp.out,rfl,S9.g.k,(S9.mono (by omega)).g.s⟩
   ·have Hid1:=Lib.hid (id_any b (m + 1) w3 S3.g.s (by omega) (HP.out.keep S3.g.k hPb) hPb)
    go_wp2_with fail
    ((with_reducible refine (Hid1.out).mono ?_);rintro e w4 ⟨k,t,hkt,rfl,hk,hs⟩)
    have S4:=S3.step hk hs;have l1:=(S4.lv 1 rfl).all;have S9:=(S4.set 1 0 (.int .i64 k) rfl).set 1 1 (.string t) rfl;clear S3 hk hs Hid1
    go_wp2_with fail
    exact bodyPost_ret (results_cell1 rfl rfl (loadIdK (S9.lv 1 rfl))) rfl ⟨⟨k,t⟩,by show t.size≤_;omega,rfl,S9.g.k,(S9.mono (by omega)).g.s⟩
end
section
open Go Go.RowKit
def kfP (P:List Psn)(x:IdV):Option Psn:=P.find? (fun p=>decide (p.key=x))
theorem kfP_at {P:List Psn}{x:IdV}{j:Nat}{p:Psn}(hp:P[j]? =some p):kfP (P.drop j) x=if p.key=x then some p else kfP (P.drop (j + 1)) x:=by
 rw [drop_at3 hp];unfold kfP;rw [List.find?_cons];by_cases h:p.key=x
 ·rw [decide_eq_true h,if_pos h]
 ·rw [decide_eq_false h,if_neg h]
def IsKf (N:Nat→Prop)(P:List Psn)(x:IdV)(w':World)(cs:Array Value)(b:Bool):Prop :=
 (kfP P x=none∧b=false∧cs=pzCs)∨∃ p A a B b',kfP P x=some p∧b=true∧cs=psCs p A a B b'∧Sl rInt N w' A p.tch∧Sl rId N w' B p.ids
theorem IsKf.mono {M N:Nat→Prop}{P:List Psn}{x:IdV}{w:World}{cs:Array Value}{b:Bool}(h:IsKf N P x w cs b)(k:∀ k,k < w.heap.size→M k→N k):IsKf M P x w cs b:=by
 rcases h with h | ⟨p,A,a,B,b',h1,h2,h3,h4,h5⟩
 ·exact .inl h
 ·exact .inr ⟨p,A,a,B,b',h1,h2,h3,h4.mono k,h5.mono k⟩
theorem IsKf.keep {N:Nat→Prop}{P:List Psn}{x:IdV}{w w':World}{cs:Array Value}{b:Bool}(h:IsKf N P x w cs b)(k:SKN N w w'):IsKf N P x w' cs b:=by
 rcases h with h | ⟨p,A,a,B,b',h1,h2,h3,h4,h5⟩
 ·exact .inl h
 ·exact .inr ⟨p,A,a,B,b',h1,h2,h3,h4.keep k,h5.keep k⟩
def Chunk.kfd (P:List Psn)(x:IdV)(cs:Array Value)(b:Bool):Chunk :=
 ⟨none,fun M w=>IsKf M P x w cs b,fun k hd _ h=>h.keep (k.mono hd),fun hm h=>h.mono (fun k hk e=>(hm k hk e).resolve_right (by simp)),fun _ _ e=>by cases e⟩
def GivesKf (r:Rul)(ts:List Tch)(x:IdV)(w:World)(e:Ending)(w':World):Prop :=
 ∃ P cs b,e=.returned (.tuple #[.agg cs,.bool b])∧IsPsns r ts P∧Below w.heap.size w w'∧IsKf (fun _=>False) P x w' cs b
theorem idv_cmp (y x:IdV):(y=x∧(y.k==x.k)=true∧(y.t.toList==x.t.toList)=true)∨(¬ y=x∧(y.k==x.k)=false)∨(¬ y=x∧(y.k==x.k)=true∧(y.t.toList==x.t.toList)=false):=by
 by_cases h:y=x
 ·subst h;exact .inl ⟨rfl,beq_self_eq_true _,beq_self_eq_true _⟩
 ·by_cases h1:y.k=x.k
  ·refine .inr (.inr ⟨h,by simpa using h1,?_⟩);cases h3:(y.t.toList==x.t.toList) with
   | false=>rfl
   | true=>exact absurd (idv_eq h1 h3) h
  ·exact .inr (.inl ⟨h,by simpa using h1⟩)
set_option maxHeartbeats 8000000 in
set_option maxRecDepth 100000 in
theorem refPersonOf_any (N:Nat→Prop)(r:Rul)(K W S A:Option Addr)(ck cw cs c:Nat)(ts:List Tch)(x:IdV)(w:World)(hR:RulIn N w r K W S)(hT:Sl rTch N w A ts)(ho:RtOn r ts) :
  Calls Tryz.prog 63 #[.agg (ruCs r K ck W cw S cs),.slice A ts.length c,.agg #[.int .i64 x.k,.string x.t]] w (GivesKf r ts x w):=by
 obtain ⟨Y,hY⟩:∃ Y,Y=w.heap.size:=⟨_,rfl⟩;have T0:=(Mem.start w).newAt (ruCs r K ck W cw S cs) 29 Y hY;have T1:=T0.newAt #[.int .i64 x.k,.string x.t] 41 (Y + 1) (by rw [hY,World.size_alloc]);have T:Mem w _ [.loc Y (ruCs r K ck W cw S cs) 29,.loc (Y + 1) #[.int .i64 x.k,.string x.t] 41,.loc (Y + 1 + 1) pzCs 98]:=T1.newAt pzCs 98 (Y + 1 + 1) (by rw [hY,World.size_alloc,World.size_alloc]);have Hp:=Lib.hid (fun w' (h:Below w.heap.size w w')=>refPersonsN_any N r K W S A ck cw cs c ts w' (hR.keepB h) (hT.keepB h) ho);have Htb:=Lib.hid ho.tb;clear T0 T1 hR hT ho
 go_enter Tryz.func63,Tryz.ntmps63
 go_upto_region 1 with fail
 rw [← hY];clear hY;generalize ((w.alloc (.cells (ruCs r K ck W cw S cs) 29)).alloc (.cells #[.int .i64 x.k,.string x.t] 41)).alloc (.cells pzCs 98)=w1 at *;obtain ⟨X,hX⟩:∃ X,X=Y + 1:=⟨_,rfl⟩;obtain ⟨R,hRr⟩:∃ R,R=X + 1:=⟨_,rfl⟩;rw [← hX,← hRr] at T ⊢;clear hX hRr;have y0:=(T.lv 0 rfl).all
 go_wp2_with fail
 ((with_reducible refine (Hp.out w1 T.b).mono ?_);rintro e w2 ⟨A2,c2,P,rfl,hP,TP⟩)
 have HP:=Lib.hid hP;have hPl:P.length≤1000000:=by
  obtain ⟨cc,_,rfl⟩:=hP;unfold psns;rw [List.length_map];have:=heads_len cc ts.length
  have:=Htb.out
  omega
 have S0:Mem w w2 [.loc Y (ruCs r K ck W cw S cs) 29,.loc X #[.int .i64 x.k,.string x.t] 41,.loc R pzCs 98,.sl rPsn A2 P]:=T.join TP;clear y0 T TP hP Hp
 go_wp2_with fail
 go_loopw [14] (fun i wr=>∃ j:Nat,j≤P.length∧i=.int .i64 j∧Hid (kfP (P.drop j) x=kfP P x)∧Mem w wr [.loc Y (ruCs r K ck W cw S cs) 29,.loc X #[.int .i64 x.k,.string x.t] 41,.loc R pzCs 98,.sl rPsn A2 P]) (fun i _=>P.length - (intOf i).toNat)
 case atStart=>exact ⟨0,Nat.zero_le _,rfl,rfl,S0⟩
 case round =>
  clear S0;obtain ⟨j,hj,rfl,Hf,S0⟩:=hrel;by_cases hlt:j < P.length
  ·obtain ⟨p,hp⟩:∃ p,P[j]? =some p:=⟨_,List.getElem?_eq_getElem hlt⟩;obtain ⟨b1,o1,At,at',Ai,ai,rfl,hb1,c0,c1,c2,c3,s1,s2⟩:=(S0.slc 3 rfl).psn j p hp;have Hk:=Lib.hid (kfP_at (x:=x) hp);clear hp;obtain ⟨U,hU⟩:∃ U,U=wr.heap.size:=⟨_,rfl⟩;rcases idv_cmp p.key x with ⟨hke,h1,h2⟩ | ⟨hke,h1⟩ | ⟨hke,h1,h2⟩
   ·have hof:kfP P x=some p:=by rw [← Hf.out,Hk.out,if_pos hke]
    have S1:=S0.turn 3 rfl (.kfd P x (psCs p At at' Ai ai) true) rfl (.inr ⟨p,At,at',Ai,ai,hof,rfl,rfl,s1,s2⟩);clear hke hof Hk Hf s1 s2;have S2:Mem w (wr.alloc (.cells (psCs p At at' Ai ai) 98)) [.loc Y (ruCs r K ck W cw S cs) 29,.loc X #[.int .i64 x.k,.string x.t] 41,.loc R pzCs 98,.kfd P x (psCs p At at' Ai ai) true,.loc U (psCs p At at' Ai ai) 98]:=S1.newAt (psCs p At at' Ai ai) 98 U hU
    go_upto_region 4 with fail
    rw [← hU];clear hU S0 S1 c0 c1 c2 c3;generalize wr.alloc (.cells (psCs p At at' Ai ai) 98)=w3 at *;have l1:=(S2.lv 1 rfl).all;have l2:=(S2.lv 2 rfl).all;have l4:=(S2.lv 4 rfl).all;have S9:=(((S2.set 2 0 (.int .i64 p.key.k) rfl).set 2 1 (.string p.key.t) rfl).set 2 2 (.slice At p.tch.length at') rfl).set 2 3 (.slice Ai p.ids.length ai) rfl;have h9:=IsKf.mono (M:=fun _=>False) (S9.ok (.kfd P x (psCs p At at' Ai ai) true) (.tail _ (.tail _ (.tail _ (.head _))))) (fun _ _ h=>h.elim)
    go_wp2_with fail
    exact bodyPost_ret (results_cs rfl rfl rfl (loadPsn (S9.lv 2 rfl))) rfl ⟨P,_,_,rfl,HP.out,S9.b,h9⟩
   ·have Hn:Hid (kfP (P.drop (j + 1)) x=kfP P x):=by show _=_;rw [← Hf.out,Hk.out,if_neg hke]
    have S2:Mem w (wr.alloc (.cells (psCs p At at' Ai ai) 98)) [.loc Y (ruCs r K ck W cw S cs) 29,.loc X #[.int .i64 x.k,.string x.t] 41,.loc R pzCs 98,.sl rPsn (some ⟨b1,o1,none⟩) P,.loc U (psCs p At at' Ai ai) 98]:=S0.newAt (psCs p At at' Ai ai) 98 U hU;clear hke Hk Hf s1 s2
    go_upto_region 4 with fail
    rw [← hU];clear hU S0 c0 c1 c2 c3;generalize wr.alloc (.cells (psCs p At at' Ai ai) 98)=w3 at *;have l1:=(S2.lv 1 rfl).all;have l4:=(S2.lv 4 rfl).all
    go_wp2_with fail
    go_roundw
    case rel=>exact ⟨j + 1,by omega,by go_num,Hn.out,S2.del 4⟩
    case measure=>simp [intOf];omega
   ·have Hn:Hid (kfP (P.drop (j + 1)) x=kfP P x):=by show _=_;rw [← Hf.out,Hk.out,if_neg hke]
    have S2:Mem w (wr.alloc (.cells (psCs p At at' Ai ai) 98)) [.loc Y (ruCs r K ck W cw S cs) 29,.loc X #[.int .i64 x.k,.string x.t] 41,.loc R pzCs 98,.sl rPsn (some ⟨b1,o1,none⟩) P,.loc U (psCs p At at' Ai ai) 98]:=S0.newAt (psCs p At at' Ai ai) 98 U hU;clear hke Hk Hf s1 s2
    go_upto_region 4 with fail
    rw [← hU];clear hU S0 c0 c1 c2 c3;generalize wr.alloc (.cells (psCs p At at' Ai ai) 98)=w3 at *;have l1:=(S2.lv 1 rfl).all;have l4:=(S2.lv 4 rfl).all
    go_wp2_with fail
    go_roundw
    case rel=>exact ⟨j + 1,by omega,by go_num,Hn.out,S2.del 4⟩
    case measure=>simp [intOf];omega
  ·obtain rfl:j=P.length:=by omega
   have Hn:Hid (kfP P x=none):=by show _=_;rw [← Hf.out,List.drop_length];rfl
   have l2:=(S0.lv 2 rfl).all;have S9:=(((S0.set 2 0 (.int .i64 0) rfl).set 2 1 (.string ⟨#[]⟩) rfl).set 2 2 (.slice none 0 0) rfl).set 2 3 (.slice none 0 0) rfl;clear Hf
   go_wp2_with fail
   exact bodyPost_ret (results_cs rfl rfl rfl (loadPsn (S9.lv 2 rfl))) rfl ⟨P,_,_,rfl,HP.out,S9.b,.inl ⟨Hn.out,rfl,rfl⟩⟩
end
end Go.Proofs.YtfdcgedcfafmcaaGreatDoor
