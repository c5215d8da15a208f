/- Several texts in one: LawTch, Joined, PsnOf, KeyFor, PsnKf. -/
import Derived.Test.YtmkkppknaikjjaaGreatDoorPackL
import Derived.Test.YtmkkppknaikjjaaGreatDoorPackY
import Derived.Test.YtmkkppknaikjjaaGreatDoorPackN
/- The law TouchChecks walked: it returns true, and nothing that was there has turned. -/
set_option maxHeartbeats 8000000
set_option maxRecDepth 100000
open Go.Lib renaming hid→Z9
open List renaming length_map→ZW
open Nat renaming le_trans→ZE
namespace Go.Proofs.YtmkkppknaikjjaaGreatDoor
section
open Go Go.RowKit
theorem AA {w:World}{X:Nat}{a b c d:Value}(h:LV w X #[a,b,c,d] 29):(Instr.loadAt 29 (.pointer (some ⟨X,0,none⟩))).run Tryz.prog w=.ok (.agg #[a,b,c,d]) w:=by
 have c0:=h.all;go_simp
end
section
open Go Go.RowKit
theorem Nq (r:aP)(ts:List ak):lQ [jB r,iy ts]=kL r ts:=by
 unfold kL;by_cases h:jB r=0
 ·by_cases h2:iy ts=0 <;> simp [lQ,h,h2]
 ·simp [lQ,h]
theorem Nr {P:Program}{fn:Func}{s t r:Tmp}{T:TypeId}{a:Addr}{v u x:Value}{w:World}{tmps:Array Value}(h:fn.results=#[.cell t T,.tmp s,.tmp r])(hp:tmps.getD t undef=.pointer (some a))(hs:tmps.getD s undef=u)(hr:tmps.getD r undef=x)(hl:(loadVar T a).run P w=.ok v w):(results fn tmps).run P w=.ok (.tuple #[v,u,x]) w:=by
 have hp':tmps[t]?.getD undef=.pointer (some a):=by simpa using hp
 have hs':tmps[s]?.getD undef=u:=by simpa using hs
 have hr':tmps[r]?.getD undef=x:=by simpa using hr
 simp [results,h,asAddr,hp',hs',hr',hl]
def agh (b m n:Nat)(w:World)(e:Ending)(w':World):Prop:=∃ (r:aP) (K:Option Addr) (ck:Nat) (W:Option Addr) (cw:Nat) (Sv:Option Addr) (cs:Nat) (A:Option Addr) (c:Nat) (ts:List ak),
 e=.returned (.tuple #[.agg (aN r K ck W cw Sv cs),.slice A ts.length c,.int .i64 (kL r ts)])∧zY r∧zZ ts∧ts.length≤n∧St b m w w' [.sl ay K r.kinds,.sl aO W r.weak,.sl iQ Sv r.aX,.sl fU A ts]
theorem adB (b m n B:Nat)(w:World)(hs:bQ b m w)(hm:m≤100000)(hn:n≤16)(hN:Names w)(hNb:0≠b)(hP:Pool w)(hPb:1≠b)(hB:B≤b)(hBw:B≤w.heap.size)(hT:∀ w',Below B w w'→Tabs w'∧gG w') :
  Calls Tryz.prog 5 #[.pointer (some ⟨b,0,none⟩),.int .i64 n] w (agh b (m + 40000) n w):=by
 have S:=(St.start hs).new' fE 29;replace S:St b m w (w.alloc (.cells fE 29)) [.loc w.heap.size fE 29]:=S;have HN:=Z9 hN;have HP:=Z9 hP;have HT:=Z9 hT;have HB:Hid (B≤b∧B≤w.heap.size):=⟨hB,hBw⟩;clear hs hN hP hT hB hBw;obtain ⟨R,hR⟩:∃ R,R=w.heap.size:=⟨_,rfl⟩;rw [← hR] at S;go_enter Tryz.func5,Tryz.ntmps5
 go_upto_region 1 with fail
 generalize w.alloc (.cells fE 29)=w1 at *;rw [← hR];clear hR;go_wp2_with fail
 refine (agi b _ B _ S.g.s (by omega) (HN.out.keep S.g.k hNb) hNb (HP.out.keep S.g.k hPb) hPb HB.out.1 (ZE HB.out.2 S.g.size) (fun w' h=>HT.out w' ((S.g.k.below HB.out.1 HB.out.2).trans h))).mono ?_;rintro e w2 ⟨r,K,ck,W,cw,Sv,cs,rfl,hr,_,T⟩;replace S:St b _ w w2 [.loc R fE 29,.sl ay K r.kinds,.sl aO W r.weak,.sl iQ Sv r.aX]:=S.join T;clear T;have Hr:=Z9 hr.ok;clear hr;go_wp2_with fail
 refine (agj b _ n B _ S.g.s (by omega) (by omega) (HN.out.keep S.g.k hNb) hNb (HP.out.keep S.g.k hPb) hPb HB.out.1 (ZE HB.out.2 S.g.size) (fun w' h=>HT.out w' ((S.g.k.below HB.out.1 HB.out.2).trans h))).mono ?_;rintro e w3 ⟨v2,qs,rfl,jG,lC,T⟩;obtain ⟨A,c,rfl,S3⟩:=(S.join T).cO 4 rfl;have S4:=(S3.Jv 4 5 rfl rfl).del 5;obtain ⟨ts,hts⟩:∃ ts,qs.map TQ.t=ts:=⟨_,rfl⟩;have hxl:qs.length=ts.length:=by rw [← hts,ZW]
 have nD:Hid (ts.length≤n):=by show _≤_;omega
 have Ht:Hid (zZ ts):=by
  rw [← hts];exact ⟨by rw [ZW];omega,fun t ht=>by
   obtain ⟨q,hq,rfl⟩:=List.mem_map.1 ht;exact (lC q hq).1.ok⟩
 replace S4:St b _ w w3 [.loc R fE 29,.sl ay K r.kinds,.sl aO W r.weak,.sl iQ Sv r.aX,.sl fU A (qs.map TQ.t)]:=S4;rw [hts] at S4;rw [hxl];clear S S3 T hts hxl lC jG;obtain ⟨Y,hY⟩:∃ Y,Y=w3.heap.size:=⟨_,rfl⟩;have S:St b (m + 18000) w (w3.alloc (.cells (aN r K ck W cw Sv cs) 29)) [.loc R fE 29,.sl ay K r.kinds,.sl aO W r.weak,.sl iQ Sv r.aX,.sl fU A ts,.loc Y (aN r K ck W cw Sv cs) 29]:=(S4.newAt (aN r K ck W cw Sv cs) 29 Y hY).mono (by omega);clear S4;go_upto_region 2 with fail
 rw [← hY];clear hY;generalize w3.alloc (.cells (aN r K ck W cw Sv cs) 29)=w4 at *;go_wp2_with fail
 refine (flip_any b _ _ _ S.g.s (by omega) (by omega) (by omega)).mono ?_;rintro e w3 ⟨fl1,rfl,bF,dJ⟩;replace S:=S.step bF dJ;clear bF dJ;cases fl1
 ·go_wp2_with fail
  refine (flip_any b _ _ _ S.g.s (by omega) (by omega) (by omega)).mono ?_;rintro e w4 ⟨Rj,rfl,dK,eH⟩;replace S:=S.step dK eH;clear dK eH;cases Rj
  ·obtain ⟨w5,hw5⟩:∃ w5,w5=w4:=⟨_,rfl⟩;rw [← hw5] at S ⊢;clear hw5;have iJ:=HT.out w5 (S.g.k.below HB.out.1 HB.out.2);have kP:=Z9 (fun w' (h:Below w5.heap.size w5 w')=>Ju (fun _=>False) r K W Sv ck cw cs w' (kN.aK ⟨(S.slc 1 rfl).mono (fun _ _ h=>h.elim),(S.slc 2 rfl).mono (fun _ _ h=>h.elim),(S.slc 3 rfl).mono (fun _ _ h=>h.elim)⟩ h) Hr.out (iJ.2.below h));have ji:=Z9 (fun w' (h:Below w5.heap.size w5 w')=>FT (fun _=>False) A ts c w' (((S.slc 4 rfl).mono (fun _ _ h=>h.elim)).aK h) Ht.out (Utf8Tabs_below iJ.1 h) (iJ.2.below h));have Hb:=Z9 (Nq r ts);obtain ⟨F1,qc⟩:∃ F1,Hid (jB r=F1):=⟨_,Z9 rfl⟩;obtain ⟨F2,HF2⟩:∃ F2,Hid (iy ts=F2):=⟨_,Z9 rfl⟩;obtain ⟨F,HF⟩:∃ F,Hid (kL r ts=F):=⟨_,Z9 rfl⟩;rw [qc.out,HF2.out,HF.out] at Hb;rw [qc.out] at kP;rw [HF2.out] at ji;clear iJ;go_wp2_with fail
   refine dF (fun wx=>LV wx Y (aN r K ck W cw Sv cs) 29) [(true,0),(true,1),(true,2),(true,4),(false,3),(false,5),(false,6),(false,7),(false,8),(true,9),(true,10)] (by kernel_rfl) (by kernel_rfl) (fun _ hd=>(S.below (hd.below _)).lv 5 rfl) (fun KK aF wd hd=>?_);have hbd:Below w5.heap.size w5 wd:=hd.below _;replace S:=S.below (hd.below _);clear hd;refine jq (.agg (aN r K ck W cw Sv cs)) rfl rfl rfl rfl (fun w' h=>AA h) ?_;refine aA ?_;refine jq (.agg (aN r K ck W cw Sv cs)) rfl rfl rfl rfl (fun w' h=>AA h) ?_;refine aA ?_;refine aV rfl (fun Kn hK=>?_) (S.lv 5 rfl);go_wp2_with fail
   refine (kP.out wd hbd).mono ?_;rintro e wa ⟨rfl,hla⟩;have hba:Below w5.heap.size w5 wa:=hbd.trans (hla.mono hbd.size);replace S:=S.below hla;have bJ:=S.lv 5 rfl;clear hbd hla;go_wp2_with fail
   refine ⟨bJ,?_⟩;refine aV rfl (fun Kn hK=>?_) bJ;clear bJ;go_wp2_with fail
   refine (ji.out wa hba).mono ?_;rintro e wb ⟨rfl,hlb⟩;replace S:=S.below hlb;have bJ:=S.lv 5 rfl;clear hba hlb;go_wp2_with fail
   refine ⟨bJ,?_⟩;refine aV rfl (fun Kn hK=>?_) bJ;clear bJ;replace S:=S.newAt #[.int .i64 F1,.int .i64 F2] 31 wb.heap.size rfl;have bJ:=S.lv 5 rfl;have Hw:Hid (Calls Tryz.prog 10 #[.slice (some ⟨wb.heap.size,0,none⟩) 2 2] (wb.alloc (.cells #[.int .i64 F1,.int .i64 F2] 31)) fun e w'=>e=.returned (.int .i64 F)∧(wb.alloc (.cells #[.int .i64 F1,.int .i64 F2] 31))=w'):=by
    show Calls _ _ _ _ _;rw [← Hb.out];exact G8 wb.heap.size [F1,F2] _ (S.lv 6 rfl) (by simp)
   clear kP ji Hb;go_wp2_with fail
   refine ⟨bJ,?_⟩;refine aV rfl (fun Kn hK=>?_) bJ;go_wp2_with fail
   refine (Hw.out).mono ?_;rintro e we ⟨rfl,rfl⟩;go_wp2_with fail
   refine ⟨bJ,?_⟩;refine aV rfl (fun Kn hK=>?_) bJ;clear bJ Hw;generalize wb.alloc (.cells #[.int .i64 F1,.int .i64 F2] 31)=wc at *;have l0:=(S.lv 0 rfl).all;have S9:=(((S.set 0 0 (.slice K r.kinds.length ck) rfl).set 0 1 (.int .i64 r.most) rfl).set 0 2 (.slice W r.weak.length cw) rfl).set 0 3 (.slice Sv r.aX.length cs) rfl;have aZ:St b (m + 40000) w ((((wc.setCell ⟨R,0,none⟩ (.slice K r.kinds.length ck)).setCell ⟨R,1,none⟩ (.int .i64 r.most)).setCell ⟨R,2,none⟩ (.slice W r.weak.length cw)).setCell ⟨R,3,none⟩ (.slice Sv r.aX.length cs)) [.loc R (aN r K ck W cw Sv cs) 29,.sl ay K r.kinds,.sl aO W r.weak,.sl iQ Sv r.aX,.sl fU A ts,.loc Y (aN r K ck W cw Sv cs) 29]:=(S9.del 6).mono (by omega);have bJ:=aZ.lv 5 rfl;clear S S9;go_wp2_with fail
   refine ⟨bJ,?_⟩;clear l0 bJ;generalize (((wc.setCell ⟨R,0,none⟩ (.slice K r.kinds.length ck)).setCell ⟨R,1,none⟩ (.int .i64 r.most)).setCell ⟨R,2,none⟩ (.slice W r.weak.length cw)).setCell ⟨R,3,none⟩ (.slice Sv r.aX.length cs)=wz at *;refine aA ?_;refine dG ?_;simp only [Exit.then];refine aF _ _ ?_;go_wp2_with fail
   exact bodyPost_ret (Nr rfl rfl rfl rfl (oK (aZ.lv 0 rfl))) rfl ⟨r,K,ck,W,cw,Sv,cs,A,c,ts,by rw [HF.out];rfl,Hr.out,Ht.out,nD.out,(aZ.del 5).del 0⟩
  ·go_wp2_with fail
   refine (aah b _ n _ S.g.s (by omega) (by omega) (HN.out.keep S.g.k hNb) hNb (HP.out.keep S.g.k hPb) hPb).mono ?_;rintro e w5 ⟨v2,qs,rfl,jG,lC,T⟩;obtain ⟨A,c,rfl,S3⟩:=(S.join T).cO 6 rfl;have S4:=((S3.Jv 6 7 rfl rfl).del 7).del 4;clear Ht nD;obtain ⟨ts,hts⟩:∃ ts,qs.map TQ.t=ts:=⟨_,rfl⟩;have hxl:qs.length=ts.length:=by rw [← hts,ZW]
   have nD:Hid (ts.length≤n):=by show _≤_;omega
   have Ht:Hid (zZ ts):=by
    rw [← hts];exact ⟨by rw [ZW];omega,fun t ht=>by
     obtain ⟨q,hq,rfl⟩:=List.mem_map.1 ht;exact (lC q hq).ok⟩
   replace S4:St b _ w w5 [.loc R fE 29,.sl ay K r.kinds,.sl aO W r.weak,.sl iQ Sv r.aX,.loc Y (aN r K ck W cw Sv cs) 29,.sl fU A (qs.map TQ.t)]:=S4;rw [hts] at S4;rw [hxl];clear S S3 T hts hxl lC jG;have S:St b _ w w5 [.loc R fE 29,.sl ay K r.kinds,.sl aO W r.weak,.sl iQ Sv r.aX,.sl fU A ts,.loc Y (aN r K ck W cw Sv cs) 29]:=S4.perm (.cons _ (.cons _ (.cons _ (.cons _ (.swap _ _ _)))));clear S4;have iJ:=HT.out w5 (S.g.k.below HB.out.1 HB.out.2);have kP:=Z9 (fun w' (h:Below w5.heap.size w5 w')=>Ju (fun _=>False) r K W Sv ck cw cs w' (kN.aK ⟨(S.slc 1 rfl).mono (fun _ _ h=>h.elim),(S.slc 2 rfl).mono (fun _ _ h=>h.elim),(S.slc 3 rfl).mono (fun _ _ h=>h.elim)⟩ h) Hr.out (iJ.2.below h));have ji:=Z9 (fun w' (h:Below w5.heap.size w5 w')=>FT (fun _=>False) A ts c w' (((S.slc 4 rfl).mono (fun _ _ h=>h.elim)).aK h) Ht.out (Utf8Tabs_below iJ.1 h) (iJ.2.below h));have Hb:=Z9 (Nq r ts);obtain ⟨F1,qc⟩:∃ F1,Hid (jB r=F1):=⟨_,Z9 rfl⟩;obtain ⟨F2,HF2⟩:∃ F2,Hid (iy ts=F2):=⟨_,Z9 rfl⟩;obtain ⟨F,HF⟩:∃ F,Hid (kL r ts=F):=⟨_,Z9 rfl⟩;rw [qc.out,HF2.out,HF.out] at Hb;rw [qc.out] at kP;rw [HF2.out] at ji;clear iJ;go_wp2_with fail
   refine dF (fun wx=>LV wx Y (aN r K ck W cw Sv cs) 29) [(true,0),(true,1),(true,2),(true,4),(false,3),(false,5),(false,6),(false,7),(false,8),(true,9),(true,10)] (by kernel_rfl) (by kernel_rfl) (fun _ hd=>(S.below (hd.below _)).lv 5 rfl) (fun KK aF wd hd=>?_);have hbd:Below w5.heap.size w5 wd:=hd.below _;replace S:=S.below (hd.below _);clear hd;refine jq (.agg (aN r K ck W cw Sv cs)) rfl rfl rfl rfl (fun w' h=>AA h) ?_;refine aA ?_;refine jq (.agg (aN r K ck W cw Sv cs)) rfl rfl rfl rfl (fun w' h=>AA h) ?_;refine aA ?_;refine aV rfl (fun Kn hK=>?_) (S.lv 5 rfl);go_wp2_with fail
   refine (kP.out wd hbd).mono ?_;rintro e wa ⟨rfl,hla⟩;have hba:Below w5.heap.size w5 wa:=hbd.trans (hla.mono hbd.size);replace S:=S.below hla;have bJ:=S.lv 5 rfl;clear hbd hla;go_wp2_with fail
   refine ⟨bJ,?_⟩;refine aV rfl (fun Kn hK=>?_) bJ;clear bJ;go_wp2_with fail
   refine (ji.out wa hba).mono ?_;rintro e wb ⟨rfl,hlb⟩;replace S:=S.below hlb;have bJ:=S.lv 5 rfl;clear hba hlb;go_wp2_with fail
   refine ⟨bJ,?_⟩;refine aV rfl (fun Kn hK=>?_) bJ;clear bJ;replace S:=S.newAt #[.int .i64 F1,.int .i64 F2] 31 wb.heap.size rfl;have bJ:=S.lv 5 rfl;have Hw:Hid (Calls Tryz.prog 10 #[.slice (some ⟨wb.heap.size,0,none⟩) 2 2] (wb.alloc (.cells #[.int .i64 F1,.int .i64 F2] 31)) fun e w'=>e=.returned (.int .i64 F)∧(wb.alloc (.cells #[.int .i64 F1,.int .i64 F2] 31))=w'):=by
    show Calls _ _ _ _ _;rw [← Hb.out];exact G8 wb.heap.size [F1,F2] _ (S.lv 6 rfl) (by simp)
   clear kP ji Hb;go_wp2_with fail
   refine ⟨bJ,?_⟩;refine aV rfl (fun Kn hK=>?_) bJ;go_wp2_with fail
   refine (Hw.out).mono ?_;rintro e we ⟨rfl,rfl⟩;go_wp2_with fail
   refine ⟨bJ,?_⟩;refine aV rfl (fun Kn hK=>?_) bJ;clear bJ Hw;generalize wb.alloc (.cells #[.int .i64 F1,.int .i64 F2] 31)=wc at *;have l0:=(S.lv 0 rfl).all;have S9:=(((S.set 0 0 (.slice K r.kinds.length ck) rfl).set 0 1 (.int .i64 r.most) rfl).set 0 2 (.slice W r.weak.length cw) rfl).set 0 3 (.slice Sv r.aX.length cs) rfl;have aZ:St b (m + 40000) w ((((wc.setCell ⟨R,0,none⟩ (.slice K r.kinds.length ck)).setCell ⟨R,1,none⟩ (.int .i64 r.most)).setCell ⟨R,2,none⟩ (.slice W r.weak.length cw)).setCell ⟨R,3,none⟩ (.slice Sv r.aX.length cs)) [.loc R (aN r K ck W cw Sv cs) 29,.sl ay K r.kinds,.sl aO W r.weak,.sl iQ Sv r.aX,.sl fU A ts,.loc Y (aN r K ck W cw Sv cs) 29]:=(S9.del 6).mono (by omega);have bJ:=aZ.lv 5 rfl;clear S S9;go_wp2_with fail
   refine ⟨bJ,?_⟩;clear l0 bJ;generalize (((wc.setCell ⟨R,0,none⟩ (.slice K r.kinds.length ck)).setCell ⟨R,1,none⟩ (.int .i64 r.most)).setCell ⟨R,2,none⟩ (.slice W r.weak.length cw)).setCell ⟨R,3,none⟩ (.slice Sv r.aX.length cs)=wz at *;refine aA ?_;refine dG ?_;simp only [Exit.then];refine aF _ _ ?_;go_wp2_with fail
   exact bodyPost_ret (Nr rfl rfl rfl rfl (oK (aZ.lv 0 rfl))) rfl ⟨r,K,ck,W,cw,Sv,cs,A,c,ts,by rw [HF.out];rfl,Hr.out,Ht.out,nD.out,(aZ.del 5).del 0⟩
 ·go_wp2_with fail
  refine (aai b _ _ S.g.s (by omega) (HN.out.keep S.g.k hNb) hNb (HP.out.keep S.g.k hPb) hPb).mono ?_;rintro e w4 ⟨r,K,ck,W,cw,Sv,cs,rfl,hr,T⟩;have S2:=(((S.join T).del 3).del 2).del 1;replace S2:St b (m + 20000) w w4 [.loc R fE 29,.sl fU A ts,.loc Y _ 29,.sl ay K r.kinds,.sl aO W r.weak,.sl iQ Sv r.aX]:=S2.mono (by omega);have l0:=(S2.lv 2 rfl).all;have S9:=(((S2.set 2 0 (.slice K r.kinds.length ck) rfl).set 2 1 (.int .i64 r.most) rfl).set 2 2 (.slice W r.weak.length cw) rfl).set 2 3 (.slice Sv r.aX.length cs) rfl;clear S S2 T Hr;have Hr:=Z9 hr.ok;clear hr;go_upto_region 4 with fail
  clear l0;have S:St b (m + 20000) w _ [.loc R fE 29,.sl ay K r.kinds,.sl aO W r.weak,.sl iQ Sv r.aX,.sl fU A ts,.loc Y (aN r K ck W cw Sv cs) 29]:=S9.perm (.cons _ (List.perm_append_comm (l₁:=[_,_]) (l₂:=[_,_,_])));clear S9;generalize (((w4.setCell ⟨Y,0,none⟩ (.slice K r.kinds.length ck)).setCell ⟨Y,1,none⟩ (.int .i64 r.most)).setCell ⟨Y,2,none⟩ (.slice W r.weak.length cw)).setCell ⟨Y,3,none⟩ (.slice Sv r.aX.length cs)=w9 at *;go_wp2_with fail
  refine (flip_any b _ _ _ S.g.s (by omega) (by omega) (by omega)).mono ?_;rintro e w4 ⟨Rj,rfl,dK,eH⟩;replace S:=S.step dK eH;clear dK eH;cases Rj
  ·obtain ⟨w5,hw5⟩:∃ w5,w5=w4:=⟨_,rfl⟩;rw [← hw5] at S ⊢;clear hw5;have iJ:=HT.out w5 (S.g.k.below HB.out.1 HB.out.2);have kP:=Z9 (fun w' (h:Below w5.heap.size w5 w')=>Ju (fun _=>False) r K W Sv ck cw cs w' (kN.aK ⟨(S.slc 1 rfl).mono (fun _ _ h=>h.elim),(S.slc 2 rfl).mono (fun _ _ h=>h.elim),(S.slc 3 rfl).mono (fun _ _ h=>h.elim)⟩ h) Hr.out (iJ.2.below h));have ji:=Z9 (fun w' (h:Below w5.heap.size w5 w')=>FT (fun _=>False) A ts c w' (((S.slc 4 rfl).mono (fun _ _ h=>h.elim)).aK h) Ht.out (Utf8Tabs_below iJ.1 h) (iJ.2.below h));have Hb:=Z9 (Nq r ts);obtain ⟨F1,qc⟩:∃ F1,Hid (jB r=F1):=⟨_,Z9 rfl⟩;obtain ⟨F2,HF2⟩:∃ F2,Hid (iy ts=F2):=⟨_,Z9 rfl⟩;obtain ⟨F,HF⟩:∃ F,Hid (kL r ts=F):=⟨_,Z9 rfl⟩;rw [qc.out,HF2.out,HF.out] at Hb;rw [qc.out] at kP;rw [HF2.out] at ji;clear iJ;go_wp2_with fail
   refine dF (fun wx=>LV wx Y (aN r K ck W cw Sv cs) 29) [(true,0),(true,1),(true,2),(true,4),(false,3),(false,5),(false,6),(false,7),(false,8),(true,9),(true,10)] (by kernel_rfl) (by kernel_rfl) (fun _ hd=>(S.below (hd.below _)).lv 5 rfl) (fun KK aF wd hd=>?_);have hbd:Below w5.heap.size w5 wd:=hd.below _;replace S:=S.below (hd.below _);clear hd;refine jq (.agg (aN r K ck W cw Sv cs)) rfl rfl rfl rfl (fun w' h=>AA h) ?_;refine aA ?_;refine jq (.agg (aN r K ck W cw Sv cs)) rfl rfl rfl rfl (fun w' h=>AA h) ?_;refine aA ?_;refine aV rfl (fun Kn hK=>?_) (S.lv 5 rfl);go_wp2_with fail
   refine (kP.out wd hbd).mono ?_;rintro e wa ⟨rfl,hla⟩;have hba:Below w5.heap.size w5 wa:=hbd.trans (hla.mono hbd.size);replace S:=S.below hla;have bJ:=S.lv 5 rfl;clear hbd hla;go_wp2_with fail
   refine ⟨bJ,?_⟩;refine aV rfl (fun Kn hK=>?_) bJ;clear bJ;go_wp2_with fail
   refine (ji.out wa hba).mono ?_;rintro e wb ⟨rfl,hlb⟩;replace S:=S.below hlb;have bJ:=S.lv 5 rfl;clear hba hlb;go_wp2_with fail
   refine ⟨bJ,?_⟩;refine aV rfl (fun Kn hK=>?_) bJ;clear bJ;replace S:=S.newAt #[.int .i64 F1,.int .i64 F2] 31 wb.heap.size rfl;have bJ:=S.lv 5 rfl;have Hw:Hid (Calls Tryz.prog 10 #[.slice (some ⟨wb.heap.size,0,none⟩) 2 2] (wb.alloc (.cells #[.int .i64 F1,.int .i64 F2] 31)) fun e w'=>e=.returned (.int .i64 F)∧(wb.alloc (.cells #[.int .i64 F1,.int .i64 F2] 31))=w'):=by
    show Calls _ _ _ _ _;rw [← Hb.out];exact G8 wb.heap.size [F1,F2] _ (S.lv 6 rfl) (by simp)
   clear kP ji Hb;go_wp2_with fail
   refine ⟨bJ,?_⟩;refine aV rfl (fun Kn hK=>?_) bJ;go_wp2_with fail
   refine (Hw.out).mono ?_;rintro e we ⟨rfl,rfl⟩;go_wp2_with fail
   refine ⟨bJ,?_⟩;refine aV rfl (fun Kn hK=>?_) bJ;clear bJ Hw;generalize wb.alloc (.cells #[.int .i64 F1,.int .i64 F2] 31)=wc at *;have l0:=(S.lv 0 rfl).all;have S9:=(((S.set 0 0 (.slice K r.kinds.length ck) rfl).set 0 1 (.int .i64 r.most) rfl).set 0 2 (.slice W r.weak.length cw) rfl).set 0 3 (.slice Sv r.aX.length cs) rfl;have aZ:St b (m + 40000) w ((((wc.setCell ⟨R,0,none⟩ (.slice K r.kinds.length ck)).setCell ⟨R,1,none⟩ (.int .i64 r.most)).setCell ⟨R,2,none⟩ (.slice W r.weak.length cw)).setCell ⟨R,3,none⟩ (.slice Sv r.aX.length cs)) [.loc R (aN r K ck W cw Sv cs) 29,.sl ay K r.kinds,.sl aO W r.weak,.sl iQ Sv r.aX,.sl fU A ts,.loc Y (aN r K ck W cw Sv cs) 29]:=(S9.del 6).mono (by omega);have bJ:=aZ.lv 5 rfl;clear S S9;go_wp2_with fail
   refine ⟨bJ,?_⟩;clear l0 bJ;generalize (((wc.setCell ⟨R,0,none⟩ (.slice K r.kinds.length ck)).setCell ⟨R,1,none⟩ (.int .i64 r.most)).setCell ⟨R,2,none⟩ (.slice W r.weak.length cw)).setCell ⟨R,3,none⟩ (.slice Sv r.aX.length cs)=wz at *;refine aA ?_;refine dG ?_;simp only [Exit.then];refine aF _ _ ?_;go_wp2_with fail
   exact bodyPost_ret (Nr rfl rfl rfl rfl (oK (aZ.lv 0 rfl))) rfl ⟨r,K,ck,W,cw,Sv,cs,A,c,ts,by rw [HF.out];rfl,Hr.out,Ht.out,nD.out,(aZ.del 5).del 0⟩
  ·go_wp2_with fail
   refine (aah b _ n _ S.g.s (by omega) (by omega) (HN.out.keep S.g.k hNb) hNb (HP.out.keep S.g.k hPb) hPb).mono ?_;rintro e w5 ⟨v2,qs,rfl,jG,lC,T⟩;obtain ⟨A,c,rfl,S3⟩:=(S.join T).cO 6 rfl;have S4:=((S3.Jv 6 7 rfl rfl).del 7).del 4;clear Ht nD;obtain ⟨ts,hts⟩:∃ ts,qs.map TQ.t=ts:=⟨_,rfl⟩;have hxl:qs.length=ts.length:=by rw [← hts,ZW]
   have nD:Hid (ts.length≤n):=by show _≤_;omega
   have Ht:Hid (zZ ts):=by
    rw [← hts];exact ⟨by rw [ZW];omega,fun t ht=>by
     obtain ⟨q,hq,rfl⟩:=List.mem_map.1 ht;exact (lC q hq).ok⟩
   replace S4:St b _ w w5 [.loc R fE 29,.sl ay K r.kinds,.sl aO W r.weak,.sl iQ Sv r.aX,.loc Y (aN r K ck W cw Sv cs) 29,.sl fU A (qs.map TQ.t)]:=S4;rw [hts] at S4;rw [hxl];clear S S3 T hts hxl lC jG;have S:St b _ w w5 [.loc R fE 29,.sl ay K r.kinds,.sl aO W r.weak,.sl iQ Sv r.aX,.sl fU A ts,.loc Y (aN r K ck W cw Sv cs) 29]:=S4.perm (.cons _ (.cons _ (.cons _ (.cons _ (.swap _ _ _)))));clear S4;have iJ:=HT.out w5 (S.g.k.below HB.out.1 HB.out.2);have kP:=Z9 (fun w' (h:Below w5.heap.size w5 w')=>Ju (fun _=>False) r K W Sv ck cw cs w' (kN.aK ⟨(S.slc 1 rfl).mono (fun _ _ h=>h.elim),(S.slc 2 rfl).mono (fun _ _ h=>h.elim),(S.slc 3 rfl).mono (fun _ _ h=>h.elim)⟩ h) Hr.out (iJ.2.below h));have ji:=Z9 (fun w' (h:Below w5.heap.size w5 w')=>FT (fun _=>False) A ts c w' (((S.slc 4 rfl).mono (fun _ _ h=>h.elim)).aK h) Ht.out (Utf8Tabs_below iJ.1 h) (iJ.2.below h));have Hb:=Z9 (Nq r ts);obtain ⟨F1,qc⟩:∃ F1,Hid (jB r=F1):=⟨_,Z9 rfl⟩;obtain ⟨F2,HF2⟩:∃ F2,Hid (iy ts=F2):=⟨_,Z9 rfl⟩;obtain ⟨F,HF⟩:∃ F,Hid (kL r ts=F):=⟨_,Z9 rfl⟩;rw [qc.out,HF2.out,HF.out] at Hb;rw [qc.out] at kP;rw [HF2.out] at ji;clear iJ;go_wp2_with fail
   refine dF (fun wx=>LV wx Y (aN r K ck W cw Sv cs) 29) [(true,0),(true,1),(true,2),(true,4),(false,3),(false,5),(false,6),(false,7),(false,8),(true,9),(true,10)] (by kernel_rfl) (by kernel_rfl) (fun _ hd=>(S.below (hd.below _)).lv 5 rfl) (fun KK aF wd hd=>?_);have hbd:Below w5.heap.size w5 wd:=hd.below _;replace S:=S.below (hd.below _);clear hd;refine jq (.agg (aN r K ck W cw Sv cs)) rfl rfl rfl rfl (fun w' h=>AA h) ?_;refine aA ?_;refine jq (.agg (aN r K ck W cw Sv cs)) rfl rfl rfl rfl (fun w' h=>AA h) ?_;refine aA ?_;refine aV rfl (fun Kn hK=>?_) (S.lv 5 rfl);go_wp2_with fail
   refine (kP.out wd hbd).mono ?_;rintro e wa ⟨rfl,hla⟩;have hba:Below w5.heap.size w5 wa:=hbd.trans (hla.mono hbd.size);replace S:=S.below hla;have bJ:=S.lv 5 rfl;clear hbd hla;go_wp2_with fail
   refine ⟨bJ,?_⟩;refine aV rfl (fun Kn hK=>?_) bJ;clear bJ;go_wp2_with fail
   refine (ji.out wa hba).mono ?_;rintro e wb ⟨rfl,hlb⟩;replace S:=S.below hlb;have bJ:=S.lv 5 rfl;clear hba hlb;go_wp2_with fail
   refine ⟨bJ,?_⟩;refine aV rfl (fun Kn hK=>?_) bJ;clear bJ;replace S:=S.newAt #[.int .i64 F1,.int .i64 F2] 31 wb.heap.size rfl;have bJ:=S.lv 5 rfl;have Hw:Hid (Calls Tryz.prog 10 #[.slice (some ⟨wb.heap.size,0,none⟩) 2 2] (wb.alloc (.cells #[.int .i64 F1,.int .i64 F2] 31)) fun e w'=>e=.returned (.int .i64 F)∧(wb.alloc (.cells #[.int .i64 F1,.int .i64 F2] 31))=w'):=by
    show Calls _ _ _ _ _;rw [← Hb.out];exact G8 wb.heap.size [F1,F2] _ (S.lv 6 rfl) (by simp)
   clear kP ji Hb;go_wp2_with fail
   refine ⟨bJ,?_⟩;refine aV rfl (fun Kn hK=>?_) bJ;go_wp2_with fail
   refine (Hw.out).mono ?_;rintro e we ⟨rfl,rfl⟩;go_wp2_with fail
   refine ⟨bJ,?_⟩;refine aV rfl (fun Kn hK=>?_) bJ;clear bJ Hw;generalize wb.alloc (.cells #[.int .i64 F1,.int .i64 F2] 31)=wc at *;have l0:=(S.lv 0 rfl).all;have S9:=(((S.set 0 0 (.slice K r.kinds.length ck) rfl).set 0 1 (.int .i64 r.most) rfl).set 0 2 (.slice W r.weak.length cw) rfl).set 0 3 (.slice Sv r.aX.length cs) rfl;have aZ:St b (m + 40000) w ((((wc.setCell ⟨R,0,none⟩ (.slice K r.kinds.length ck)).setCell ⟨R,1,none⟩ (.int .i64 r.most)).setCell ⟨R,2,none⟩ (.slice W r.weak.length cw)).setCell ⟨R,3,none⟩ (.slice Sv r.aX.length cs)) [.loc R (aN r K ck W cw Sv cs) 29,.sl ay K r.kinds,.sl aO W r.weak,.sl iQ Sv r.aX,.sl fU A ts,.loc Y (aN r K ck W cw Sv cs) 29]:=(S9.del 6).mono (by omega);have bJ:=aZ.lv 5 rfl;clear S S9;go_wp2_with fail
   refine ⟨bJ,?_⟩;clear l0 bJ;generalize (((wc.setCell ⟨R,0,none⟩ (.slice K r.kinds.length ck)).setCell ⟨R,1,none⟩ (.int .i64 r.most)).setCell ⟨R,2,none⟩ (.slice W r.weak.length cw)).setCell ⟨R,3,none⟩ (.slice Sv r.aX.length cs)=wz at *;refine aA ?_;refine dG ?_;simp only [Exit.then];refine aF _ _ ?_;go_wp2_with fail
   exact bodyPost_ret (Nr rfl rfl rfl rfl (oK (aZ.lv 0 rfl))) rfl ⟨r,K,ck,W,cw,Sv,cs,A,c,ts,by rw [HF.out];rfl,Hr.out,Ht.out,nD.out,(aZ.del 5).del 0⟩
end
section
open Go Go.RowKit
end
section
open Go Go.RowKit
end
section
open Go Go.RowKit
end
end Go.Proofs.YtmkkppknaikjjaaGreatDoor
