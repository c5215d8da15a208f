/- Several texts in one: Repeat, GenVal, GenFlds, GenId. -/
import Derived.Test.YtmkkppknaikjjaaGreatDoorPackV
/- What strings.Repeat returns: a string of a bounded length. -/
set_option maxHeartbeats 4000000
set_option maxRecDepth 100000
open Go.Lib renaming hid→Z9
open Nat renaming le_refl→Z5
open Go.RowKit.Below renaming refl→ZX
open Int renaming eq_ofNat_of_zero_le→Zi
open List renaming mem_cons→YU, not_mem_nil→YI
namespace Go.Proofs.YtmkkppknaikjjaaGreatDoor
section
open Go.RowKit
def agt (M:Nat)(w:World)(e:Ending)(w':World):Prop:=∃ s:ByteArray,s.size≤M∧e=.returned (.string s)∧Below w.heap.size w w'
theorem rZ (s:ByteArray)(z:Int)(M:Nat)(w:World)(h0:0≤z)(hz:z≤1000000)(hM:s.size * z.toNat≤M)(hM2:M≤1000000000) :
  Calls Tryz.prog 142 #[.string s,.int .i64 z] w (agt M w):=by
 obtain ⟨n,rfl⟩:=Zi h0;simp only [Int.toNat_natCast] at hM;refine (Tryz.strings_Repeat s n w (by omega) (by omega)).mono ?_;rintro e w' ⟨rfl,hl⟩;refine ⟨_,?_,rfl,hl⟩;show (Lib.repeatL s.data.toList n).length≤M;rw [Lib.repeatL_length,Nat.mul_comm];exact hM
end
section
open Go.RowKit
def agu (b m:Nat)(w:World)(e:Ending)(w':World):Prop:=∃ (k:Int) (t:ByteArray) (n:Int),t.size≤1000∧e=.returned (.agg #[.int .i64 k,.string t,.int .i64 n])∧SK b w w'∧bQ b m w'
theorem aap (b m:Nat)(w:World)(hs:bQ b m w)(hm:m≤100000000000) :
  Calls Tryz.prog 152 #[.pointer (some ⟨b,0,none⟩)] w (agu b (m + 6) w):=by
 have hlt:=hs.lt;have g0:=(G.start hs).alloc (.cells #[.int .i64 0,.string ⟨#[]⟩,.int .i64 0] 174);have AO:=LV.new w w.heap.size #[.int .i64 0,.string ⟨#[]⟩,.int .i64 0] 174 rfl;go_enter Tryz.func152,Tryz.ntmps152
 go_wp2_with fail
 refine (mZ b m _ _ 1 4 g0.s (by simp) (by simp) (nP (by decide)) (by simp) (by simp) (by omega)).mono ?_;rintro e w1 ⟨k,agv,agw,rfl,jO,og⟩;have g1:=(g0.step jO og).alloc (.cells #[.int .i64 k,.string ⟨#[]⟩,.int .i64 0] 174);have bR1:=(LV.keep AO jO (by omega)).alloc (.cells #[.int .i64 k,.string ⟨#[]⟩,.int .i64 0] 174);have vF:=LV.new w1 w1.heap.size #[.int .i64 k,.string ⟨#[]⟩,.int .i64 0] 174 rfl;have hz1:=jO.size;simp only [World.size_alloc] at hz1;clear jO og AO g0;have hkk:k=1∨k=2∨k=3∨k=4:=by omega
 clear agv agw;rcases hkk with hk | hk | hk | hk
 all_goals subst hk
 ·go_wp2_with fail
  refine (one_le b (m + 1) _ _ 100 g1.s (by simp) (by simp) (Jj (by decide)) (by simp) (by simp) (by omega)).mono ?_;rintro e w2 ⟨t,NG,rfl,bW,dP⟩;have g2:=g1.step bW dP;have bR2:=LV.keep bR1 bW (by omega);have bX2:=LV.keep vF bW (by omega);clear bW dP bR1 vF g1;have h4:=g2.set (X:=w1.heap.size) (by omega) (by omega) 1 (.string t);have dh:=bX2.set 1 (.string t) #[.int .i64 1,.string t,.int .i64 0] rfl;have dw:=bR2.other (Y:=w1.heap.size) (by omega) 1 (.string t);have Jw:=bX2.cell 0 _ rfl;have Jy:=bX2.cell 1 _ rfl;have Rn:=bX2.cell 2 _ rfl;have Jz:=bX2.free 0;have JA:=bX2.free 1;have Ro:=bX2.free 2;clear bX2 bR2 g2;go_wp2_with fail
  refine (flip_any b (m + 2) _ _ h4.s (by omega) (by omega) (by omega)).mono ?_;rintro e w3 ⟨r3,rfl,bF,dJ⟩;have g3:=h4.step bF dJ;have bZ:=LV.keep dh bF (by omega);have dM:=LV.keep dw bF (by omega);clear bF dJ h4 dh dw;cases r3
  ·have gf:=((g3.set (X:=w.heap.size) (by omega) (Z5 _) 0 (.int .i64 1)).set (X:=w.heap.size) (by omega) (Z5 _) 1 (.string t)).set (X:=w.heap.size) (by omega) (Z5 _) 2 (.int .i64 0);have JB:=bZ.cell 0 _ rfl;have JC:=bZ.cell 1 _ rfl;have Rq:=bZ.cell 2 _ rfl;have JD:=bZ.free 0;have JE:=bZ.free 1;have Rt:=bZ.free 2;have Dv:=dM.cell 0 _ rfl;have Dw:=dM.cell 1 _ rfl;have Dx:=dM.cell 2 _ rfl;have Ru:=dM.free 0;have Rw:=dM.free 1;have Rx:=dM.free 2;clear g3 bZ dM;go_wp2_with fail
   exact bodyPost_ret (v:=.agg #[.int .i64 1,.string t,.int .i64 0]) (by simp [results,Tryz.results152,go_sem,Dv,Dw,Dx]) rfl ⟨_,_,_,(by omega),rfl,gf.k,gf.s.mono (by omega)⟩
  ·go_wp2_with fail
   refine (next_any b (m + 3) _ _ g3.s (by omega) (by omega) (by omega)).mono ?_;rintro e w4 ⟨r4,Ry,Rz,rfl,dK,eH⟩;have g4:=g3.step dK eH;have dh:=LV.keep bZ dK (by omega);have dw:=LV.keep dM dK (by omega);clear dK eH g3 bZ dM;by_cases lU:r4=0
   ·subst lU;go_wp2_with fail
    refine (mZ b (m + 4) _ _ 0 5 g4.s (by simp) (by simp) (nP (by decide)) (by simp) (by simp) (by omega)).mono ?_;rintro e w5 ⟨k5,RD,RF,rfl,dD,gK⟩;have g5:=g4.step dD gK;have bg:=LV.keep dh dD (by omega);have fF:=LV.keep dw dD (by omega);clear dD gK g4 dh dw;have g6:=g5.set (X:=w1.heap.size) (by omega) (by omega) 0 (.int .i64 k5);have bC:=bg.set 0 (.int .i64 k5) #[.int .i64 k5,.string t,.int .i64 0] rfl;have bD:=fF.other (Y:=w1.heap.size) (by omega) 0 (.int .i64 k5);have Dy:=bg.cell 0 _ rfl;have Dz:=bg.cell 1 _ rfl;have DC:=bg.cell 2 _ rfl;have DF:=bg.free 0;have DI:=bg.free 1;have DJ:=bg.free 2;clear bg fF g5;have gf:=((g6.set (X:=w.heap.size) (by omega) (Z5 _) 0 (.int .i64 k5)).set (X:=w.heap.size) (by omega) (Z5 _) 1 (.string t)).set (X:=w.heap.size) (by omega) (Z5 _) 2 (.int .i64 0);have DK:=bC.cell 0 _ rfl;have DL:=bC.cell 1 _ rfl;have DN:=bC.cell 2 _ rfl;have DR:=bC.free 0;have DT:=bC.free 1;have DU:=bC.free 2;have qy:=bD.cell 0 _ rfl;have qA:=bD.cell 1 _ rfl;have qB:=bD.cell 2 _ rfl;have DV:=bD.free 0;have DW:=bD.free 1;have DX:=bD.free 2;clear g6 bC bD;go_wp2_with fail
    exact bodyPost_ret (v:=.agg #[.int .i64 k5,.string t,.int .i64 0]) (by simp [results,Tryz.results152,go_sem,qy,qA,qB]) rfl ⟨_,_,_,(by omega),rfl,gf.k,gf.s.mono (by omega)⟩
   ·have DY:(r4==0)=false:=by simpa using lU
    by_cases vG:r4=1
    ·subst vG;clear lU DY;go_wp2_with fail
     refine (mZ b (m + 4) _ _ (-1) 1000000000001 g4.s (by simp) (by simp) (nP (by decide)) (by simp) (by simp) (by omega)).mono ?_;rintro e w5 ⟨n5,RG,RH,rfl,dD,gK⟩;have g5:=g4.step dD gK;have bg:=LV.keep dh dD (by omega);have fF:=LV.keep dw dD (by omega);clear dD gK g4 dh dw;have g6:=g5.set (X:=w1.heap.size) (by omega) (by omega) 2 (.int .i64 n5);have bC:=bg.set 2 (.int .i64 n5) #[.int .i64 1,.string t,.int .i64 n5] rfl;have bD:=fF.other (Y:=w1.heap.size) (by omega) 2 (.int .i64 n5);have Dy:=bg.cell 0 _ rfl;have Dz:=bg.cell 1 _ rfl;have DC:=bg.cell 2 _ rfl;have DF:=bg.free 0;have DI:=bg.free 1;have DJ:=bg.free 2;clear bg fF g5;have gf:=((g6.set (X:=w.heap.size) (by omega) (Z5 _) 0 (.int .i64 1)).set (X:=w.heap.size) (by omega) (Z5 _) 1 (.string t)).set (X:=w.heap.size) (by omega) (Z5 _) 2 (.int .i64 n5);have DK:=bC.cell 0 _ rfl;have DL:=bC.cell 1 _ rfl;have DN:=bC.cell 2 _ rfl;have DR:=bC.free 0;have DT:=bC.free 1;have DU:=bC.free 2;have qy:=bD.cell 0 _ rfl;have qA:=bD.cell 1 _ rfl;have qB:=bD.cell 2 _ rfl;have DV:=bD.free 0;have DW:=bD.free 1;have DX:=bD.free 2;clear g6 bC bD;go_wp2_with fail
     exact bodyPost_ret (v:=.agg #[.int .i64 1,.string t,.int .i64 n5]) (by simp [results,Tryz.results152,go_sem,qy,qA,qB]) rfl ⟨_,_,_,(by omega),rfl,gf.k,gf.s.mono (by omega)⟩
    ·have RI:(r4==1)=false:=by simpa using vG
     go_wp2_with fail
     go_wp2_with fail
     refine (rZ ⟨#[97]⟩ 200 1000 _ (by decide) (by decide) (by decide) (by decide)).mono ?_;rintro e w5 ⟨ra,JF,rfl,jV⟩;have g5:=g4.below jV;have bg:=LV.keep dh (SK.dU (b:=b) jV) (by omega);have fF:=LV.keep dw (SK.dU (b:=b) jV) (by omega);clear jV dh dw g4;go_wp2_with fail
     refine (rZ ⟨#[97]⟩ 201 1000 _ (by decide) (by decide) (by decide) (by decide)).mono ?_;rintro e w6 ⟨rb,NH,rfl,jW⟩;have g6:=g5.below jW;have bC:=LV.keep bg (SK.dU (b:=b) jW) (by omega);have bD:=LV.keep fF (SK.dU (b:=b) jW) (by omega);clear jW bg fF g5;go_wp2_with fail
     refine (one_le b (m + 4) _ _ 1000 g6.s (by simp) (by simp) (by repeat (first | exact FK | refine FM (by first | omega | decide) ?_)) (by simp) (by simp) (by omega)).mono ?_;rintro e w7 ⟨t7,AP,rfl,iK,lW⟩;have g7:=g6.step iK lW;have eF:=LV.keep bC iK (by omega);have qV:=LV.keep bD iK (by omega);clear iK lW g6 bC bD;have g8:=g7.set (X:=w1.heap.size) (by omega) (by omega) 1 (.string t7);have fP:=eF.set 1 (.string t7) #[.int .i64 1,.string t7,.int .i64 0] rfl;have fQ:=qV.other (Y:=w1.heap.size) (by omega) 1 (.string t7);have NI:=eF.cell 0 _ rfl;have NJ:=eF.cell 1 _ rfl;have RJ:=eF.cell 2 _ rfl;have NK:=eF.free 0;have NM:=eF.free 1;have RN:=eF.free 2;clear eF qV g7;have gf:=((g8.set (X:=w.heap.size) (by omega) (Z5 _) 0 (.int .i64 1)).set (X:=w.heap.size) (by omega) (Z5 _) 1 (.string t7)).set (X:=w.heap.size) (by omega) (Z5 _) 2 (.int .i64 0);have NP:=fP.cell 0 _ rfl;have NQ:=fP.cell 1 _ rfl;have RP:=fP.cell 2 _ rfl;have NR:=fP.free 0;have NS:=fP.free 1;have RS:=fP.free 2;have yJ:=fQ.cell 0 _ rfl;have yK:=fQ.cell 1 _ rfl;have DZ:=fQ.cell 2 _ rfl;have NT:=fQ.free 0;have NU:=fQ.free 1;have RU:=fQ.free 2;clear g8 fP fQ;go_wp2_with fail
     exact bodyPost_ret (v:=.agg #[.int .i64 1,.string t7,.int .i64 0]) (by simp [results,Tryz.results152,go_sem,yJ,yK,DZ]) rfl ⟨_,_,_,AP,rfl,gf.k,gf.s.mono (by omega)⟩
 ·go_wp2_with fail
  refine (mZ b (m + 1) _ _ (-1000000000000) 1000000000000 g1.s (by simp) (by simp) (nP (by decide)) (by simp) (by simp) (by omega)).mono ?_;rintro e w2 ⟨n,NV,NW,rfl,bW,dP⟩;have g2:=g1.step bW dP;have bR2:=LV.keep bR1 bW (by omega);have bX2:=LV.keep vF bW (by omega);clear bW dP bR1 vF g1;have h4:=g2.set (X:=w1.heap.size) (by omega) (by omega) 2 (.int .i64 n);have dh:=bX2.set 2 (.int .i64 n) #[.int .i64 2,.string ⟨#[]⟩,.int .i64 n] rfl;have dw:=bR2.other (Y:=w1.heap.size) (by omega) 2 (.int .i64 n);have Jw:=bX2.cell 0 _ rfl;have Jy:=bX2.cell 1 _ rfl;have Rn:=bX2.cell 2 _ rfl;have Jz:=bX2.free 0;have JA:=bX2.free 1;have Ro:=bX2.free 2;clear bX2 bR2 g2;go_wp2_with fail
  refine (flip_any b (m + 2) _ _ h4.s (by omega) (by omega) (by omega)).mono ?_;rintro e w3 ⟨r3,rfl,bF,dJ⟩;have g3:=h4.step bF dJ;have bZ:=LV.keep dh bF (by omega);have dM:=LV.keep dw bF (by omega);clear bF dJ h4 dh dw;cases r3
  ·have gf:=((g3.set (X:=w.heap.size) (by omega) (Z5 _) 0 (.int .i64 2)).set (X:=w.heap.size) (by omega) (Z5 _) 1 (.string (ByteArray.mk #[]))).set (X:=w.heap.size) (by omega) (Z5 _) 2 (.int .i64 n);have JB:=bZ.cell 0 _ rfl;have JC:=bZ.cell 1 _ rfl;have Rq:=bZ.cell 2 _ rfl;have JD:=bZ.free 0;have JE:=bZ.free 1;have Rt:=bZ.free 2;have Dv:=dM.cell 0 _ rfl;have Dw:=dM.cell 1 _ rfl;have Dx:=dM.cell 2 _ rfl;have Ru:=dM.free 0;have Rw:=dM.free 1;have Rx:=dM.free 2;clear g3 bZ dM;go_wp2_with fail
   exact bodyPost_ret (v:=.agg #[.int .i64 2,.string (ByteArray.mk #[]),.int .i64 n]) (by simp [results,Tryz.results152,go_sem,Dv,Dw,Dx]) rfl ⟨_,_,_,(by decide),rfl,gf.k,gf.s.mono (by omega)⟩
  ·go_wp2_with fail
   refine (next_any b (m + 3) _ _ g3.s (by omega) (by omega) (by omega)).mono ?_;rintro e w4 ⟨r4,Ry,Rz,rfl,dK,eH⟩;have g4:=g3.step dK eH;have dh:=LV.keep bZ dK (by omega);have dw:=LV.keep dM dK (by omega);clear dK eH g3 bZ dM;by_cases lU:r4=0
   ·subst lU;go_wp2_with fail
    refine (mZ b (m + 4) _ _ 0 5 g4.s (by simp) (by simp) (nP (by decide)) (by simp) (by simp) (by omega)).mono ?_;rintro e w5 ⟨k5,RD,RF,rfl,dD,gK⟩;have g5:=g4.step dD gK;have bg:=LV.keep dh dD (by omega);have fF:=LV.keep dw dD (by omega);clear dD gK g4 dh dw;have g6:=g5.set (X:=w1.heap.size) (by omega) (by omega) 0 (.int .i64 k5);have bC:=bg.set 0 (.int .i64 k5) #[.int .i64 k5,.string (ByteArray.mk #[]),.int .i64 n] rfl;have bD:=fF.other (Y:=w1.heap.size) (by omega) 0 (.int .i64 k5);have Dy:=bg.cell 0 _ rfl;have Dz:=bg.cell 1 _ rfl;have DC:=bg.cell 2 _ rfl;have DF:=bg.free 0;have DI:=bg.free 1;have DJ:=bg.free 2;clear bg fF g5;have gf:=((g6.set (X:=w.heap.size) (by omega) (Z5 _) 0 (.int .i64 k5)).set (X:=w.heap.size) (by omega) (Z5 _) 1 (.string (ByteArray.mk #[]))).set (X:=w.heap.size) (by omega) (Z5 _) 2 (.int .i64 n);have DK:=bC.cell 0 _ rfl;have DL:=bC.cell 1 _ rfl;have DN:=bC.cell 2 _ rfl;have DR:=bC.free 0;have DT:=bC.free 1;have DU:=bC.free 2;have qy:=bD.cell 0 _ rfl;have qA:=bD.cell 1 _ rfl;have qB:=bD.cell 2 _ rfl;have DV:=bD.free 0;have DW:=bD.free 1;have DX:=bD.free 2;clear g6 bC bD;go_wp2_with fail
    exact bodyPost_ret (v:=.agg #[.int .i64 k5,.string (ByteArray.mk #[]),.int .i64 n]) (by simp [results,Tryz.results152,go_sem,qy,qA,qB]) rfl ⟨_,_,_,(by decide),rfl,gf.k,gf.s.mono (by omega)⟩
   ·have DY:(r4==0)=false:=by simpa using lU
    by_cases vG:r4=1
    ·subst vG;clear lU DY;go_wp2_with fail
     refine (mZ b (m + 4) _ _ (-1) 1000000000001 g4.s (by simp) (by simp) (nP (by decide)) (by simp) (by simp) (by omega)).mono ?_;rintro e w5 ⟨n5,RG,RH,rfl,dD,gK⟩;have g5:=g4.step dD gK;have bg:=LV.keep dh dD (by omega);have fF:=LV.keep dw dD (by omega);clear dD gK g4 dh dw;have g6:=g5.set (X:=w1.heap.size) (by omega) (by omega) 2 (.int .i64 n5);have bC:=bg.set 2 (.int .i64 n5) #[.int .i64 2,.string (ByteArray.mk #[]),.int .i64 n5] rfl;have bD:=fF.other (Y:=w1.heap.size) (by omega) 2 (.int .i64 n5);have Dy:=bg.cell 0 _ rfl;have Dz:=bg.cell 1 _ rfl;have DC:=bg.cell 2 _ rfl;have DF:=bg.free 0;have DI:=bg.free 1;have DJ:=bg.free 2;clear bg fF g5;have gf:=((g6.set (X:=w.heap.size) (by omega) (Z5 _) 0 (.int .i64 2)).set (X:=w.heap.size) (by omega) (Z5 _) 1 (.string (ByteArray.mk #[]))).set (X:=w.heap.size) (by omega) (Z5 _) 2 (.int .i64 n5);have DK:=bC.cell 0 _ rfl;have DL:=bC.cell 1 _ rfl;have DN:=bC.cell 2 _ rfl;have DR:=bC.free 0;have DT:=bC.free 1;have DU:=bC.free 2;have qy:=bD.cell 0 _ rfl;have qA:=bD.cell 1 _ rfl;have qB:=bD.cell 2 _ rfl;have DV:=bD.free 0;have DW:=bD.free 1;have DX:=bD.free 2;clear g6 bC bD;go_wp2_with fail
     exact bodyPost_ret (v:=.agg #[.int .i64 2,.string (ByteArray.mk #[]),.int .i64 n5]) (by simp [results,Tryz.results152,go_sem,qy,qA,qB]) rfl ⟨_,_,_,(by decide),rfl,gf.k,gf.s.mono (by omega)⟩
    ·have RI:(r4==1)=false:=by simpa using vG
     go_wp2_with fail
     go_wp2_with fail
     refine (rZ ⟨#[97]⟩ 200 1000 _ (by decide) (by decide) (by decide) (by decide)).mono ?_;rintro e w5 ⟨ra,JF,rfl,jV⟩;have g5:=g4.below jV;have bg:=LV.keep dh (SK.dU (b:=b) jV) (by omega);have fF:=LV.keep dw (SK.dU (b:=b) jV) (by omega);clear jV dh dw g4;go_wp2_with fail
     refine (rZ ⟨#[97]⟩ 201 1000 _ (by decide) (by decide) (by decide) (by decide)).mono ?_;rintro e w6 ⟨rb,NH,rfl,jW⟩;have g6:=g5.below jW;have bC:=LV.keep bg (SK.dU (b:=b) jW) (by omega);have bD:=LV.keep fF (SK.dU (b:=b) jW) (by omega);clear jW bg fF g5;go_wp2_with fail
     refine (one_le b (m + 4) _ _ 1000 g6.s (by simp) (by simp) (by repeat (first | exact FK | refine FM (by first | omega | decide) ?_)) (by simp) (by simp) (by omega)).mono ?_;rintro e w7 ⟨t7,AP,rfl,iK,lW⟩;have g7:=g6.step iK lW;have eF:=LV.keep bC iK (by omega);have qV:=LV.keep bD iK (by omega);clear iK lW g6 bC bD;have g8:=g7.set (X:=w1.heap.size) (by omega) (by omega) 1 (.string t7);have fP:=eF.set 1 (.string t7) #[.int .i64 2,.string t7,.int .i64 n] rfl;have fQ:=qV.other (Y:=w1.heap.size) (by omega) 1 (.string t7);have NI:=eF.cell 0 _ rfl;have NJ:=eF.cell 1 _ rfl;have RJ:=eF.cell 2 _ rfl;have NK:=eF.free 0;have NM:=eF.free 1;have RN:=eF.free 2;clear eF qV g7;have gf:=((g8.set (X:=w.heap.size) (by omega) (Z5 _) 0 (.int .i64 2)).set (X:=w.heap.size) (by omega) (Z5 _) 1 (.string t7)).set (X:=w.heap.size) (by omega) (Z5 _) 2 (.int .i64 n);have NP:=fP.cell 0 _ rfl;have NQ:=fP.cell 1 _ rfl;have RP:=fP.cell 2 _ rfl;have NR:=fP.free 0;have NS:=fP.free 1;have RS:=fP.free 2;have yJ:=fQ.cell 0 _ rfl;have yK:=fQ.cell 1 _ rfl;have DZ:=fQ.cell 2 _ rfl;have NT:=fQ.free 0;have NU:=fQ.free 1;have RU:=fQ.free 2;clear g8 fP fQ;go_wp2_with fail
     exact bodyPost_ret (v:=.agg #[.int .i64 2,.string t7,.int .i64 n]) (by simp [results,Tryz.results152,go_sem,yJ,yK,DZ]) rfl ⟨_,_,_,AP,rfl,gf.k,gf.s.mono (by omega)⟩
 ·go_wp2_with fail
  refine (next_any b (m + 1) _ _ g1.s (by omega) (by omega) (by omega)).mono ?_;rintro e w2 ⟨n,NV,NW,rfl,bW,dP⟩;have g2:=g1.step bW dP;have bR2:=LV.keep bR1 bW (by omega);have bX2:=LV.keep vF bW (by omega);clear bW dP bR1 vF g1;have h4:=g2.set (X:=w1.heap.size) (by omega) (by omega) 2 (.int .i64 n);have dh:=bX2.set 2 (.int .i64 n) #[.int .i64 3,.string ⟨#[]⟩,.int .i64 n] rfl;have dw:=bR2.other (Y:=w1.heap.size) (by omega) 2 (.int .i64 n);have Jw:=bX2.cell 0 _ rfl;have Jy:=bX2.cell 1 _ rfl;have Rn:=bX2.cell 2 _ rfl;have Jz:=bX2.free 0;have JA:=bX2.free 1;have Ro:=bX2.free 2;clear bX2 bR2 g2;go_wp2_with fail
  refine (flip_any b (m + 2) _ _ h4.s (by omega) (by omega) (by omega)).mono ?_;rintro e w3 ⟨r3,rfl,bF,dJ⟩;have g3:=h4.step bF dJ;have bZ:=LV.keep dh bF (by omega);have dM:=LV.keep dw bF (by omega);clear bF dJ h4 dh dw;cases r3
  ·have gf:=((g3.set (X:=w.heap.size) (by omega) (Z5 _) 0 (.int .i64 3)).set (X:=w.heap.size) (by omega) (Z5 _) 1 (.string (ByteArray.mk #[]))).set (X:=w.heap.size) (by omega) (Z5 _) 2 (.int .i64 n);have JB:=bZ.cell 0 _ rfl;have JC:=bZ.cell 1 _ rfl;have Rq:=bZ.cell 2 _ rfl;have JD:=bZ.free 0;have JE:=bZ.free 1;have Rt:=bZ.free 2;have Dv:=dM.cell 0 _ rfl;have Dw:=dM.cell 1 _ rfl;have Dx:=dM.cell 2 _ rfl;have Ru:=dM.free 0;have Rw:=dM.free 1;have Rx:=dM.free 2;clear g3 bZ dM;go_wp2_with fail
   exact bodyPost_ret (v:=.agg #[.int .i64 3,.string (ByteArray.mk #[]),.int .i64 n]) (by simp [results,Tryz.results152,go_sem,Dv,Dw,Dx]) rfl ⟨_,_,_,(by decide),rfl,gf.k,gf.s.mono (by omega)⟩
  ·go_wp2_with fail
   refine (next_any b (m + 3) _ _ g3.s (by omega) (by omega) (by omega)).mono ?_;rintro e w4 ⟨r4,Ry,Rz,rfl,dK,eH⟩;have g4:=g3.step dK eH;have dh:=LV.keep bZ dK (by omega);have dw:=LV.keep dM dK (by omega);clear dK eH g3 bZ dM;by_cases lU:r4=0
   ·subst lU;go_wp2_with fail
    refine (mZ b (m + 4) _ _ 0 5 g4.s (by simp) (by simp) (nP (by decide)) (by simp) (by simp) (by omega)).mono ?_;rintro e w5 ⟨k5,RD,RF,rfl,dD,gK⟩;have g5:=g4.step dD gK;have bg:=LV.keep dh dD (by omega);have fF:=LV.keep dw dD (by omega);clear dD gK g4 dh dw;have g6:=g5.set (X:=w1.heap.size) (by omega) (by omega) 0 (.int .i64 k5);have bC:=bg.set 0 (.int .i64 k5) #[.int .i64 k5,.string (ByteArray.mk #[]),.int .i64 n] rfl;have bD:=fF.other (Y:=w1.heap.size) (by omega) 0 (.int .i64 k5);have Dy:=bg.cell 0 _ rfl;have Dz:=bg.cell 1 _ rfl;have DC:=bg.cell 2 _ rfl;have DF:=bg.free 0;have DI:=bg.free 1;have DJ:=bg.free 2;clear bg fF g5;have gf:=((g6.set (X:=w.heap.size) (by omega) (Z5 _) 0 (.int .i64 k5)).set (X:=w.heap.size) (by omega) (Z5 _) 1 (.string (ByteArray.mk #[]))).set (X:=w.heap.size) (by omega) (Z5 _) 2 (.int .i64 n);have DK:=bC.cell 0 _ rfl;have DL:=bC.cell 1 _ rfl;have DN:=bC.cell 2 _ rfl;have DR:=bC.free 0;have DT:=bC.free 1;have DU:=bC.free 2;have qy:=bD.cell 0 _ rfl;have qA:=bD.cell 1 _ rfl;have qB:=bD.cell 2 _ rfl;have DV:=bD.free 0;have DW:=bD.free 1;have DX:=bD.free 2;clear g6 bC bD;go_wp2_with fail
    exact bodyPost_ret (v:=.agg #[.int .i64 k5,.string (ByteArray.mk #[]),.int .i64 n]) (by simp [results,Tryz.results152,go_sem,qy,qA,qB]) rfl ⟨_,_,_,(by decide),rfl,gf.k,gf.s.mono (by omega)⟩
   ·have DY:(r4==0)=false:=by simpa using lU
    by_cases vG:r4=1
    ·subst vG;clear lU DY;go_wp2_with fail
     refine (mZ b (m + 4) _ _ (-1) 1000000000001 g4.s (by simp) (by simp) (nP (by decide)) (by simp) (by simp) (by omega)).mono ?_;rintro e w5 ⟨n5,RG,RH,rfl,dD,gK⟩;have g5:=g4.step dD gK;have bg:=LV.keep dh dD (by omega);have fF:=LV.keep dw dD (by omega);clear dD gK g4 dh dw;have g6:=g5.set (X:=w1.heap.size) (by omega) (by omega) 2 (.int .i64 n5);have bC:=bg.set 2 (.int .i64 n5) #[.int .i64 3,.string (ByteArray.mk #[]),.int .i64 n5] rfl;have bD:=fF.other (Y:=w1.heap.size) (by omega) 2 (.int .i64 n5);have Dy:=bg.cell 0 _ rfl;have Dz:=bg.cell 1 _ rfl;have DC:=bg.cell 2 _ rfl;have DF:=bg.free 0;have DI:=bg.free 1;have DJ:=bg.free 2;clear bg fF g5;have gf:=((g6.set (X:=w.heap.size) (by omega) (Z5 _) 0 (.int .i64 3)).set (X:=w.heap.size) (by omega) (Z5 _) 1 (.string (ByteArray.mk #[]))).set (X:=w.heap.size) (by omega) (Z5 _) 2 (.int .i64 n5);have DK:=bC.cell 0 _ rfl;have DL:=bC.cell 1 _ rfl;have DN:=bC.cell 2 _ rfl;have DR:=bC.free 0;have DT:=bC.free 1;have DU:=bC.free 2;have qy:=bD.cell 0 _ rfl;have qA:=bD.cell 1 _ rfl;have qB:=bD.cell 2 _ rfl;have DV:=bD.free 0;have DW:=bD.free 1;have DX:=bD.free 2;clear g6 bC bD;go_wp2_with fail
     exact bodyPost_ret (v:=.agg #[.int .i64 3,.string (ByteArray.mk #[]),.int .i64 n5]) (by simp [results,Tryz.results152,go_sem,qy,qA,qB]) rfl ⟨_,_,_,(by decide),rfl,gf.k,gf.s.mono (by omega)⟩
    ·have RI:(r4==1)=false:=by simpa using vG
     go_wp2_with fail
     go_wp2_with fail
     refine (rZ ⟨#[97]⟩ 200 1000 _ (by decide) (by decide) (by decide) (by decide)).mono ?_;rintro e w5 ⟨ra,JF,rfl,jV⟩;have g5:=g4.below jV;have bg:=LV.keep dh (SK.dU (b:=b) jV) (by omega);have fF:=LV.keep dw (SK.dU (b:=b) jV) (by omega);clear jV dh dw g4;go_wp2_with fail
     refine (rZ ⟨#[97]⟩ 201 1000 _ (by decide) (by decide) (by decide) (by decide)).mono ?_;rintro e w6 ⟨rb,NH,rfl,jW⟩;have g6:=g5.below jW;have bC:=LV.keep bg (SK.dU (b:=b) jW) (by omega);have bD:=LV.keep fF (SK.dU (b:=b) jW) (by omega);clear jW bg fF g5;go_wp2_with fail
     refine (one_le b (m + 4) _ _ 1000 g6.s (by simp) (by simp) (by repeat (first | exact FK | refine FM (by first | omega | decide) ?_)) (by simp) (by simp) (by omega)).mono ?_;rintro e w7 ⟨t7,AP,rfl,iK,lW⟩;have g7:=g6.step iK lW;have eF:=LV.keep bC iK (by omega);have qV:=LV.keep bD iK (by omega);clear iK lW g6 bC bD;have g8:=g7.set (X:=w1.heap.size) (by omega) (by omega) 1 (.string t7);have fP:=eF.set 1 (.string t7) #[.int .i64 3,.string t7,.int .i64 n] rfl;have fQ:=qV.other (Y:=w1.heap.size) (by omega) 1 (.string t7);have NI:=eF.cell 0 _ rfl;have NJ:=eF.cell 1 _ rfl;have RJ:=eF.cell 2 _ rfl;have NK:=eF.free 0;have NM:=eF.free 1;have RN:=eF.free 2;clear eF qV g7;have gf:=((g8.set (X:=w.heap.size) (by omega) (Z5 _) 0 (.int .i64 3)).set (X:=w.heap.size) (by omega) (Z5 _) 1 (.string t7)).set (X:=w.heap.size) (by omega) (Z5 _) 2 (.int .i64 n);have NP:=fP.cell 0 _ rfl;have NQ:=fP.cell 1 _ rfl;have RP:=fP.cell 2 _ rfl;have NR:=fP.free 0;have NS:=fP.free 1;have RS:=fP.free 2;have yJ:=fQ.cell 0 _ rfl;have yK:=fQ.cell 1 _ rfl;have DZ:=fQ.cell 2 _ rfl;have NT:=fQ.free 0;have NU:=fQ.free 1;have RU:=fQ.free 2;clear g8 fP fQ;go_wp2_with fail
     exact bodyPost_ret (v:=.agg #[.int .i64 3,.string t7,.int .i64 n]) (by simp [results,Tryz.results152,go_sem,yJ,yK,DZ]) rfl ⟨_,_,_,AP,rfl,gf.k,gf.s.mono (by omega)⟩
 ·go_wp2_with fail
  refine (mZ b (m + 1) _ _ 0 4321439 g1.s (by simp) (by simp) (nP (by decide)) (by simp) (by simp) (by omega)).mono ?_;rintro e w2 ⟨n,NV,NW,rfl,bW,dP⟩;have g2:=g1.step bW dP;have bR2:=LV.keep bR1 bW (by omega);have bX2:=LV.keep vF bW (by omega);clear bW dP bR1 vF g1;have h4:=g2.set (X:=w1.heap.size) (by omega) (by omega) 2 (.int .i64 n);have dh:=bX2.set 2 (.int .i64 n) #[.int .i64 4,.string ⟨#[]⟩,.int .i64 n] rfl;have dw:=bR2.other (Y:=w1.heap.size) (by omega) 2 (.int .i64 n);have Jw:=bX2.cell 0 _ rfl;have Jy:=bX2.cell 1 _ rfl;have Rn:=bX2.cell 2 _ rfl;have Jz:=bX2.free 0;have JA:=bX2.free 1;have Ro:=bX2.free 2;clear bX2 bR2 g2;go_wp2_with fail
  refine (flip_any b (m + 2) _ _ h4.s (by omega) (by omega) (by omega)).mono ?_;rintro e w3 ⟨r3,rfl,bF,dJ⟩;have g3:=h4.step bF dJ;have bZ:=LV.keep dh bF (by omega);have dM:=LV.keep dw bF (by omega);clear bF dJ h4 dh dw;cases r3
  ·have gf:=((g3.set (X:=w.heap.size) (by omega) (Z5 _) 0 (.int .i64 4)).set (X:=w.heap.size) (by omega) (Z5 _) 1 (.string (ByteArray.mk #[]))).set (X:=w.heap.size) (by omega) (Z5 _) 2 (.int .i64 n);have JB:=bZ.cell 0 _ rfl;have JC:=bZ.cell 1 _ rfl;have Rq:=bZ.cell 2 _ rfl;have JD:=bZ.free 0;have JE:=bZ.free 1;have Rt:=bZ.free 2;have Dv:=dM.cell 0 _ rfl;have Dw:=dM.cell 1 _ rfl;have Dx:=dM.cell 2 _ rfl;have Ru:=dM.free 0;have Rw:=dM.free 1;have Rx:=dM.free 2;clear g3 bZ dM;go_wp2_with fail
   exact bodyPost_ret (v:=.agg #[.int .i64 4,.string (ByteArray.mk #[]),.int .i64 n]) (by simp [results,Tryz.results152,go_sem,Dv,Dw,Dx]) rfl ⟨_,_,_,(by decide),rfl,gf.k,gf.s.mono (by omega)⟩
  ·go_wp2_with fail
   refine (next_any b (m + 3) _ _ g3.s (by omega) (by omega) (by omega)).mono ?_;rintro e w4 ⟨r4,Ry,Rz,rfl,dK,eH⟩;have g4:=g3.step dK eH;have dh:=LV.keep bZ dK (by omega);have dw:=LV.keep dM dK (by omega);clear dK eH g3 bZ dM;by_cases lU:r4=0
   ·subst lU;go_wp2_with fail
    refine (mZ b (m + 4) _ _ 0 5 g4.s (by simp) (by simp) (nP (by decide)) (by simp) (by simp) (by omega)).mono ?_;rintro e w5 ⟨k5,RD,RF,rfl,dD,gK⟩;have g5:=g4.step dD gK;have bg:=LV.keep dh dD (by omega);have fF:=LV.keep dw dD (by omega);clear dD gK g4 dh dw;have g6:=g5.set (X:=w1.heap.size) (by omega) (by omega) 0 (.int .i64 k5);have bC:=bg.set 0 (.int .i64 k5) #[.int .i64 k5,.string (ByteArray.mk #[]),.int .i64 n] rfl;have bD:=fF.other (Y:=w1.heap.size) (by omega) 0 (.int .i64 k5);have Dy:=bg.cell 0 _ rfl;have Dz:=bg.cell 1 _ rfl;have DC:=bg.cell 2 _ rfl;have DF:=bg.free 0;have DI:=bg.free 1;have DJ:=bg.free 2;clear bg fF g5;have gf:=((g6.set (X:=w.heap.size) (by omega) (Z5 _) 0 (.int .i64 k5)).set (X:=w.heap.size) (by omega) (Z5 _) 1 (.string (ByteArray.mk #[]))).set (X:=w.heap.size) (by omega) (Z5 _) 2 (.int .i64 n);have DK:=bC.cell 0 _ rfl;have DL:=bC.cell 1 _ rfl;have DN:=bC.cell 2 _ rfl;have DR:=bC.free 0;have DT:=bC.free 1;have DU:=bC.free 2;have qy:=bD.cell 0 _ rfl;have qA:=bD.cell 1 _ rfl;have qB:=bD.cell 2 _ rfl;have DV:=bD.free 0;have DW:=bD.free 1;have DX:=bD.free 2;clear g6 bC bD;go_wp2_with fail
    exact bodyPost_ret (v:=.agg #[.int .i64 k5,.string (ByteArray.mk #[]),.int .i64 n]) (by simp [results,Tryz.results152,go_sem,qy,qA,qB]) rfl ⟨_,_,_,(by decide),rfl,gf.k,gf.s.mono (by omega)⟩
   ·have DY:(r4==0)=false:=by simpa using lU
    by_cases vG:r4=1
    ·subst vG;clear lU DY;go_wp2_with fail
     refine (mZ b (m + 4) _ _ (-1) 1000000000001 g4.s (by simp) (by simp) (nP (by decide)) (by simp) (by simp) (by omega)).mono ?_;rintro e w5 ⟨n5,RG,RH,rfl,dD,gK⟩;have g5:=g4.step dD gK;have bg:=LV.keep dh dD (by omega);have fF:=LV.keep dw dD (by omega);clear dD gK g4 dh dw;have g6:=g5.set (X:=w1.heap.size) (by omega) (by omega) 2 (.int .i64 n5);have bC:=bg.set 2 (.int .i64 n5) #[.int .i64 4,.string (ByteArray.mk #[]),.int .i64 n5] rfl;have bD:=fF.other (Y:=w1.heap.size) (by omega) 2 (.int .i64 n5);have Dy:=bg.cell 0 _ rfl;have Dz:=bg.cell 1 _ rfl;have DC:=bg.cell 2 _ rfl;have DF:=bg.free 0;have DI:=bg.free 1;have DJ:=bg.free 2;clear bg fF g5;have gf:=((g6.set (X:=w.heap.size) (by omega) (Z5 _) 0 (.int .i64 4)).set (X:=w.heap.size) (by omega) (Z5 _) 1 (.string (ByteArray.mk #[]))).set (X:=w.heap.size) (by omega) (Z5 _) 2 (.int .i64 n5);have DK:=bC.cell 0 _ rfl;have DL:=bC.cell 1 _ rfl;have DN:=bC.cell 2 _ rfl;have DR:=bC.free 0;have DT:=bC.free 1;have DU:=bC.free 2;have qy:=bD.cell 0 _ rfl;have qA:=bD.cell 1 _ rfl;have qB:=bD.cell 2 _ rfl;have DV:=bD.free 0;have DW:=bD.free 1;have DX:=bD.free 2;clear g6 bC bD;go_wp2_with fail
     exact bodyPost_ret (v:=.agg #[.int .i64 4,.string (ByteArray.mk #[]),.int .i64 n5]) (by simp [results,Tryz.results152,go_sem,qy,qA,qB]) rfl ⟨_,_,_,(by decide),rfl,gf.k,gf.s.mono (by omega)⟩
    ·have RI:(r4==1)=false:=by simpa using vG
     go_wp2_with fail
     go_wp2_with fail
     refine (rZ ⟨#[97]⟩ 200 1000 _ (by decide) (by decide) (by decide) (by decide)).mono ?_;rintro e w5 ⟨ra,JF,rfl,jV⟩;have g5:=g4.below jV;have bg:=LV.keep dh (SK.dU (b:=b) jV) (by omega);have fF:=LV.keep dw (SK.dU (b:=b) jV) (by omega);clear jV dh dw g4;go_wp2_with fail
     refine (rZ ⟨#[97]⟩ 201 1000 _ (by decide) (by decide) (by decide) (by decide)).mono ?_;rintro e w6 ⟨rb,NH,rfl,jW⟩;have g6:=g5.below jW;have bC:=LV.keep bg (SK.dU (b:=b) jW) (by omega);have bD:=LV.keep fF (SK.dU (b:=b) jW) (by omega);clear jW bg fF g5;go_wp2_with fail
     refine (one_le b (m + 4) _ _ 1000 g6.s (by simp) (by simp) (by repeat (first | exact FK | refine FM (by first | omega | decide) ?_)) (by simp) (by simp) (by omega)).mono ?_;rintro e w7 ⟨t7,AP,rfl,iK,lW⟩;have g7:=g6.step iK lW;have eF:=LV.keep bC iK (by omega);have qV:=LV.keep bD iK (by omega);clear iK lW g6 bC bD;have g8:=g7.set (X:=w1.heap.size) (by omega) (by omega) 1 (.string t7);have fP:=eF.set 1 (.string t7) #[.int .i64 4,.string t7,.int .i64 n] rfl;have fQ:=qV.other (Y:=w1.heap.size) (by omega) 1 (.string t7);have NI:=eF.cell 0 _ rfl;have NJ:=eF.cell 1 _ rfl;have RJ:=eF.cell 2 _ rfl;have NK:=eF.free 0;have NM:=eF.free 1;have RN:=eF.free 2;clear eF qV g7;have gf:=((g8.set (X:=w.heap.size) (by omega) (Z5 _) 0 (.int .i64 4)).set (X:=w.heap.size) (by omega) (Z5 _) 1 (.string t7)).set (X:=w.heap.size) (by omega) (Z5 _) 2 (.int .i64 n);have NP:=fP.cell 0 _ rfl;have NQ:=fP.cell 1 _ rfl;have RP:=fP.cell 2 _ rfl;have NR:=fP.free 0;have NS:=fP.free 1;have RS:=fP.free 2;have yJ:=fQ.cell 0 _ rfl;have yK:=fQ.cell 1 _ rfl;have DZ:=fQ.cell 2 _ rfl;have NT:=fQ.free 0;have NU:=fQ.free 1;have RU:=fQ.free 2;clear g8 fP fQ;go_wp2_with fail
     exact bodyPost_ret (v:=.agg #[.int .i64 4,.string t7,.int .i64 n]) (by simp [results,Tryz.results152,go_sem,yJ,yK,DZ]) rfl ⟨_,_,_,AP,rfl,gf.k,gf.s.mono (by omega)⟩
end
section
open Go.RowKit
def Names (w:World):Prop:=w.cell? ⟨0,0,none⟩=some (.string ⟨#[97,103,101]⟩)∧w.cell? ⟨0,1,none⟩=some (.string ⟨#[99,105,116,121]⟩)∧w.cell? ⟨0,2,none⟩=some (.string ⟨#[106,111,105,110,101,100]⟩) ∧
 w.cell? ⟨0,3,none⟩=some (.string ⟨#[110,97,109,101]⟩)∧w.cell? ⟨0,4,none⟩=some (.string ⟨#[112,108,97,110]⟩)∧w.cell? ⟨0,5,none⟩=some (.string ⟨#[118,105,112]⟩)
theorem Names.lt {w:World}(h:Names w):0 < w.heap.size:=World.block_lt_of_cell? w _ h.1
theorem Names.keep {b:Nat}{w w':World}(h:Names w)(k:SK b w w')(hb:0≠b):Names w':=by
 have e:∀ j,w'.cell? ⟨0,j,none⟩=w.cell? ⟨0,j,none⟩:=fun j=>World.cell?_of_block (k.block _ h.lt hb);obtain ⟨h0,h1,h2,h3,h4,h5⟩:=h;exact ⟨(e 0).trans h0,(e 1).trans h1,(e 2).trans h2,(e 3).trans h3,(e 4).trans h4,(e 5).trans h5⟩
theorem aaq (k:Nat)(hk:k < 6):∃ s:ByteArray,s.size≤100∧∀ w,(Instr.index 94 (.agg #[.string ⟨#[97,103,101]⟩,.string ⟨#[99,105,116,121]⟩,.string ⟨#[106,111,105,110,101,100]⟩,.string ⟨#[110,97,109,101]⟩,.string ⟨#[112,108,97,110]⟩,.string ⟨#[118,105,112]⟩]) (.int .i64 k)).run Tryz.prog w=.ok (.string s) w:=by
 obtain rfl | rfl | rfl | rfl | rfl | rfl:k=0∨k=1∨k=2∨k=3∨k=4∨k=5:=by omega
 ·exact ⟨⟨#[97,103,101]⟩,by decide,fun _=>by kernel_rfl⟩
 ·exact ⟨⟨#[99,105,116,121]⟩,by decide,fun _=>by kernel_rfl⟩
 ·exact ⟨⟨#[106,111,105,110,101,100]⟩,by decide,fun _=>by kernel_rfl⟩
 ·exact ⟨⟨#[110,97,109,101]⟩,by decide,fun _=>by kernel_rfl⟩
 ·exact ⟨⟨#[112,108,97,110]⟩,by decide,fun _=>by kernel_rfl⟩
 ·exact ⟨⟨#[118,105,112]⟩,by decide,fun _=>by kernel_rfl⟩
theorem LW:kF 56 176 bK.size 48 (.agg #[.string ⟨#[]⟩,.int .i64 0,.string ⟨#[]⟩,.int .i64 0]):=⟨Tryz.underlying56,by kernel_rfl,rfl,by decide⟩
theorem Ik:bK.Flat aQ.cells:=fun _ _ _ _=>Iff.rfl
theorem EX (f:aQ):∀ u∈f.cells,u.oneCell'=true:=fun u hu=>by
 simp only [aQ.cells,YU,YI,or_false] at hu;rcases hu with rfl | rfl | rfl | rfl <;> rfl
def aQ.tiny (f:aQ):Prop:=f.name.size≤1000∧f.text.size≤1000
def agx (b m M:Nat)(w:World)(e:Ending)(w':World):Prop:=∃ (v:Value) (xs:List aQ),e=.returned v∧Own bK (Off b) w.heap.size 176 w' v xs∧xs.length≤M∧(∀ f∈xs,f.tiny)∧G b m w w'
theorem agy {b B:Nat}(h:b < B):∀ k,B≤k→¬ Off b k:=fun k hk e=>by unfold Off at e;omega
theorem Own.stepG {α:Type}{r:Rep α}{b B E:Nat}{w w':World}{v:Value}{xs:List α}(h:Own r (Off b) B E w v xs)(k:SK b w w')(hb:b < B):Own r (Off b) B E w' v xs:=h.keep k.n (agy hb)
theorem aar {xs:List aQ}{f:aQ}(h:∀ g∈xs,g.tiny)(hf:f.tiny):∀ g∈xs++[f],g.tiny:=fun g hg=>by
 rcases List.mem_append.1 hg with h' | h'
 ·exact h g h'
 ·rw [List.mem_singleton.1 h'];exact hf
theorem agz (b m:Nat)(z:Int)(w:World)(hs:bQ b m w)(hm:m≤10000000000)(hN:Names w) :
  Calls Tryz.prog 79 #[.pointer (some ⟨b,0,none⟩),.int .i64 z] w (agx b (m + 100) 7 w):=by
 have hlt:=hs.lt;obtain ⟨n0,n1,n2,n3,n4,n5⟩:=hN;have Hs:=Z9 hs;clear hs;go_enter Tryz.func79,Tryz.ntmps79
 go_wp2_with fail
 clear n0 n1 n2 n3 n4 n5;go_loopw [5,9] (fun v i wr=>∃ (k:Nat) (xs:List aQ),k≤6∧i=.int .i64 k∧Own bK (Off b) w.heap.size 176 wr v xs∧xs.length≤k∧(∀ f∈xs,f.tiny)∧G b (m + k * 7) w wr) (fun _ i _=>6 - (intOf i).toNat)
 case atStart=>exact ⟨0,[],by omega,rfl,Own.nil _ _ _ _ _,by simp,(fun _ h=>by cases h),(G.start Hs.out).mono (by omega)⟩
 case round =>
  obtain ⟨k,xs,hk,rfl,hown,hxl,hti,hg⟩:=hrel;have pR:=Z9 hown;have JG:=Z9 hti;have hgz:=hg.size;clear hown hti Hs;obtain ⟨A,c,rfl⟩:=pR.out.len;by_cases NY:k < 6
  ·obtain ⟨nm,hnm,hix⟩:=aaq k NY;by_cases hz:(xs.length:Int) < z
   ·go_wp2_with fail
    refine (flip_any b (m + k * 7) _ _ hg.s (by omega) (by omega) (by omega)).mono ?_;rintro e w2 ⟨r2,rfl,bW,dP⟩;have g2:=hg.step bW dP;have vH:=Z9 (pR.out.stepG bW hlt);clear bW dP pR hg hix;cases r2
    ·go_wp2_with fail
     go_roundw
     case rel=>exact ⟨k + 1,xs,by omega,by go_num,vH.out,by omega,JG.out,g2.mono (by omega)⟩
     case measure=>simp [intOf];omega
    ·go_wp2_with fail
     refine (aap b (m + k * 7 + 1) _ g2.s (by omega)).mono ?_;rintro e w3 ⟨vk,vt,vn,RV,rfl,bF,dJ⟩;have g3:=g2.step bF dJ;have hz3:=g3.size;have NZ:=Z9 (vH.out.stepG bF hlt);clear bF dJ vH g2;go_wp2_with (at_builtin;refine Yp (w0:=w3) Ik LW rfl _ _ rfl (Off b) w.heap.size _ xs ⟨nm,vk,vt,vn⟩ _ rfl NZ.out rfl rfl (EX _) (by omega) (by omega) (by decide) ?_;intro v' w4 ho4 hl4)
     go_roundw
     case rel=>exact ⟨k + 1,xs++[⟨nm,vk,vt,vn⟩],by omega,by go_num,ho4,by simp;omega,aar JG.out ⟨by show nm.size≤_;omega,RV⟩,(g3.QW hl4 hlt).mono (by omega)⟩
     case measure=>simp [intOf];omega
   ·have hz':decide ((xs.length:Int) < z)=false:=by simpa using hz
    go_wp2_with fail
    go_roundw
    case rel=>exact ⟨k + 1,xs,by omega,by go_num,pR.out,by omega,JG.out,hg.mono (by omega)⟩
    case measure=>simp [intOf];omega
  ·go_wp2_with fail
   refine (flip_any b (m + k * 7) _ _ hg.s (by omega) (by omega) (by omega)).mono ?_;rintro e w2 ⟨r2,rfl,bW,dP⟩;have g2:=hg.step bW dP;have vH:=Z9 (pR.out.stepG bW hlt);clear bW dP pR hg;cases r2
   ·go_wp2_with fail
    go_ret;exact ⟨_,xs,rfl,vH.out,by omega,JG.out,g2.mono (by omega)⟩
   ·go_wp2_with fail
    refine (rZ ⟨#[122]⟩ 41 1000 _ (by decide) (by decide) (by decide) (by decide)).mono ?_;rintro e w3 ⟨ra,JF,rfl,oL⟩;have g3:=g2.below oL;have NZ:=Z9 (vH.out.stepG (SK.dU oL) hlt);clear oL g2 vH;go_wp2_with fail
    refine (one_le b _ _ _ 1000 g3.s (by simp) (by simp) (by repeat (first | exact FK | refine FM (by first | omega | decide) ?_)) (by simp) (by simp) (by omega)).mono ?_;rintro e w4 ⟨nm,Nz,rfl,dK,eH⟩;have g4:=g3.step dK eH;have Ho4:=Z9 (NZ.out.stepG dK hlt);clear dK eH g3 NZ;go_wp2_with fail
    refine (aap b _ _ g4.s (by omega)).mono ?_;rintro e w5 ⟨vk,vt,vn,RV,rfl,dD,gK⟩;have g5:=g4.step dD gK;have Ho5:=Z9 (Ho4.out.stepG dD hlt);have hz5:=g5.size;clear dD gK g4 Ho4;go_wp2_with (at_builtin;refine Yp (w0:=w5) Ik LW rfl _ _ rfl (Off b) w.heap.size _ xs ⟨nm,vk,vt,vn⟩ _ rfl Ho5.out rfl rfl (EX _) (by omega) (by omega) (by decide) ?_;intro v' w6 ho6 uF)
    go_ret;exact ⟨v',xs++[⟨nm,vk,vt,vn⟩],rfl,ho6,by simp;omega,aar JG.out ⟨Nz,RV⟩,(g5.QW uF hlt).mono (by omega)⟩
end
section
open Go.RowKit
def Pool (w:World):Prop:=∀ i,i < 10→∃ (k:Int) (t:ByteArray),t.size≤100∧w.cell? ⟨1,i * 2,none⟩=some (.int .i64 k)∧w.cell? ⟨1,i * 2 + 1,none⟩=some (.string t)
theorem Pool.lt {w:World}(h:Pool w):1 < w.heap.size:=by
 obtain ⟨k,t,_,h1,_⟩:=h 0 (by omega);exact World.block_lt_of_cell? w _ h1
theorem Pool.keep {b:Nat}{w w':World}(h:Pool w)(k:SK b w w')(hb:1≠b):Pool w':=fun i hi=>by
 obtain ⟨z,t,h0,h1,h2⟩:=h i hi;exact ⟨z,t,h0,(World.cell?_of_block (k.block _ h.lt hb)).trans h1,(World.cell?_of_block (k.block _ h.lt hb)).trans h2⟩
def aas (b m:Nat)(w:World)(e:Ending)(w':World):Prop:=∃ (k:Int) (t:ByteArray),t.size≤10000∧e=.returned (.agg #[.int .i64 k,.string t])∧SK b w w'∧bQ b m w'
theorem aat (b m:Nat)(w:World)(hs:bQ b m w)(hm:m≤10000000000)(hP:Pool w)(hPb:1≠b) :
  Calls Tryz.prog 70 #[.pointer (some ⟨b,0,none⟩)] w (aas b (m + 9) w):=by
 have hlt:=hs.lt;have HP:=Z9 hP;have agA:=hP.lt;clear hP;have g0:=(G.start hs).alloc (.cells #[.int .i64 0,.string ⟨#[]⟩] 46);have AO:=LV.new w w.heap.size #[.int .i64 0,.string ⟨#[]⟩] 46 rfl;go_enter Tryz.func70,Tryz.ntmps70
 go_wp2_with fail
 refine (next_any b m _ _ g0.s (by omega) (by omega) (by omega)).mono ?_;rintro e w1 ⟨i,RX,agB,rfl,jO,og⟩;have hz1:=jO.size;simp only [World.size_alloc] at hz1;obtain ⟨j,rfl⟩:=Zi RX;have qo:Hid (Pool w1):=(HP.out.keep (SK.dU (b:=b) ((ZX _ _).alloc (Z5 _) (.cells #[.int .i64 0,.string ⟨#[]⟩] 46))) hPb).keep jO hPb;obtain ⟨k,t,NG,pc0,pc1⟩:=qo.out j (by omega);have g1:=(g0.step jO og).alloc (.cells #[.int .i64 k,.string t] 46);have bR1:=(LV.keep AO jO (by omega)).alloc (.cells #[.int .i64 k,.string t] 46);have vF:=LV.new w1 w1.heap.size #[.int .i64 k,.string t] 46 rfl;clear jO og AO g0 HP qo;go_wp2_with fail
 refine (next_any b _ _ _ g1.s (by omega) (by omega) (by omega)).mono ?_;rintro e w2 ⟨r,Nv,Nw,rfl,bW,dP⟩;clear pc0 pc1;have g2:=g1.step bW dP;have bX2:=LV.keep vF bW (by omega);have bR2:=LV.keep bR1 bW (by omega);clear bW dP g1 vF bR1;by_cases h0:r=0
 ·subst h0;go_wp2_with fail
  refine (mZ b _ _ _ 0 5 g2.s (by simp) (by simp) (nP (by decide)) (by simp) (by simp) (by omega)).mono ?_;rintro e w3 ⟨k3,al5,al6,rfl,bF,dJ⟩;have g3:=g2.step bF dJ;have bZ:=LV.keep bX2 bF (by omega);have dM:=LV.keep bR2 bF (by omega);clear bF dJ g2 bX2 bR2;have g4:=g3.set (X:=w1.heap.size) (by omega) (by omega) 0 (.int .i64 k3);have dh:=bZ.set 0 (.int .i64 k3) #[.int .i64 k3,.string t] rfl;have dw:=dM.other (Y:=w1.heap.size) (by omega) 0 (.int .i64 k3);have JB:=bZ.cell 0 _ rfl;have JC:=bZ.cell 1 _ rfl;have JD:=bZ.free 0;have JE:=bZ.free 1;clear bZ dM g3;have gf:=(g4.set (X:=w.heap.size) (by omega) (Z5 _) 0 (.int .i64 k3)).set (X:=w.heap.size) (by omega) (Z5 _) 1 (.string t);have agC:=dh.cell 0 _ rfl;have agD:=dh.cell 1 _ rfl;have agE:=dh.free 0;have agF:=dh.free 1;have RY:=dw.cell 0 _ rfl;have RZ:=dw.cell 1 _ rfl;have agG:=dw.free 0;have agH:=dw.free 1;clear g4 dh dw;go_wp2_with fail
  exact bodyPost_ret (v:=.agg #[.int .i64 k3,.string t]) (by simp [results,Tryz.results70,go_sem,RY,RZ]) rfl ⟨_,_,(by omega),rfl,gf.k,gf.s.mono (by omega)⟩
 ·have h0':(r==0)=false:=by simpa using h0
  by_cases h1:r=1
  ·subst h1;clear h0 h0';go_wp2_with fail
   refine (rZ ⟨#[97]⟩ 65 1000 _ (by decide) (by decide) (by decide) (by decide)).mono ?_;rintro e w3 ⟨ra,JF,rfl,oL⟩;have g3:=g2.below oL;have bZ:=LV.keep bX2 (SK.dU (b:=b) oL) (by omega);have dM:=LV.keep bR2 (SK.dU (b:=b) oL) (by omega);clear oL bX2 bR2 g2;go_wp2_with fail
   refine (rZ ⟨#[98]⟩ 31 1000 _ (by decide) (by decide) (by decide) (by decide)).mono ?_;rintro e w4 ⟨rb,NH,rfl,D5⟩;have g4:=g3.below D5;have dh:=LV.keep bZ (SK.dU (b:=b) D5) (by omega);have dw:=LV.keep dM (SK.dU (b:=b) D5) (by omega);clear D5 bZ dM g3;go_wp2_with fail
   refine (rZ ⟨#[97]⟩ 64 1000 _ (by decide) (by decide) (by decide) (by decide)).mono ?_;rintro e w5 ⟨rc,al7,rfl,jV⟩;have g5:=g4.below jV;have bg:=LV.keep dh (SK.dU (b:=b) jV) (by omega);have fF:=LV.keep dw (SK.dU (b:=b) jV) (by omega);clear jV dh dw g4;go_wp2_with fail
   refine (rZ ⟨#[98]⟩ 12 1000 _ (by decide) (by decide) (by decide) (by decide)).mono ?_;rintro e w6 ⟨rd,al8,rfl,jW⟩;have g6:=g5.below jW;have bC:=LV.keep bg (SK.dU (b:=b) jW) (by omega);have bD:=LV.keep fF (SK.dU (b:=b) jW) (by omega);clear jW bg fF g5;have l1:(⟨#[64,98,46,100,101]⟩:ByteArray).size=5:=rfl;have l2:(⟨#[97,64]⟩:ByteArray).size=2:=rfl;have l3:(⟨#[46,100,101]⟩:ByteArray).size=3:=rfl;have l4:(⟨#[64]⟩:ByteArray).size=1:=rfl;have L1:=Z9 l1;have L2:=Z9 l2;have L3:=Z9 l3;have L4:=Z9 l4;clear l1 l2 l3 l4;go_wp2_with fail
   refine (one_le b _ _ _ 5000 g6.s (by simp) (by simp) (by repeat (first | exact FK | refine FM (by first | decide | (simp only [ByteArray.size_append,L1.out,L2.out,L3.out,L4.out];omega)) ?_)) (by simp) (by simp) (by omega)).mono ?_;rintro e w7 ⟨t7,AP,rfl,iK,lW⟩;have g7:=g6.step iK lW;have eF:=LV.keep bC iK (by omega);have qV:=LV.keep bD iK (by omega);clear iK lW g6 bC bD;have g8:=g7.set (X:=w1.heap.size) (by omega) (by omega) 1 (.string t7);have fP:=eF.set 1 (.string t7) #[.int .i64 k,.string t7] rfl;have fQ:=qV.other (Y:=w1.heap.size) (by omega) 1 (.string t7);have NI:=eF.cell 0 _ rfl;have NJ:=eF.cell 1 _ rfl;have NK:=eF.free 0;have NM:=eF.free 1;clear eF qV g7;have gf:=(g8.set (X:=w.heap.size) (by omega) (Z5 _) 0 (.int .i64 k)).set (X:=w.heap.size) (by omega) (Z5 _) 1 (.string t7);have NP:=fP.cell 0 _ rfl;have NQ:=fP.cell 1 _ rfl;have NR:=fP.free 0;have NS:=fP.free 1;have yJ:=fQ.cell 0 _ rfl;have yK:=fQ.cell 1 _ rfl;have NT:=fQ.free 0;have NU:=fQ.free 1;clear g8 fP fQ;go_wp2_with fail
   exact bodyPost_ret (v:=.agg #[.int .i64 k,.string t7]) (by simp [results,Tryz.results70,go_sem,yJ,yK]) rfl ⟨_,_,(by omega),rfl,gf.k,gf.s.mono (by omega)⟩
  ·have h1':(r==1)=false:=by simpa using h1
   clear h0 h1;have Jw:=bX2.cell 0 _ rfl;have Jy:=bX2.cell 1 _ rfl;have Jz:=bX2.free 0;have JA:=bX2.free 1;go_wp2_with fail
   refine (afJ b _ t _ _ g2.s (by omega) (by decide) (by omega)).mono ?_;rintro e w3 ⟨t3,aau,rfl,bF,dJ⟩;clear Jw Jy Jz JA;have g3:=g2.step bF dJ;have bZ:=LV.keep bX2 bF (by omega);have dM:=LV.keep bR2 bF (by omega);clear bF dJ g2 bX2 bR2;have g4:=g3.set (X:=w1.heap.size) (by omega) (by omega) 1 (.string t3);have dh:=bZ.set 1 (.string t3) #[.int .i64 k,.string t3] rfl;have dw:=dM.other (Y:=w1.heap.size) (by omega) 1 (.string t3);have e10:(⟨#[97,98,48,64,46,45,43,95,65,90]⟩:ByteArray).size=10:=rfl;have agI:t3.size≤10000:=by rw [e10] at aau;omega
   clear e10;have JB:=bZ.cell 0 _ rfl;have JC:=bZ.cell 1 _ rfl;have JD:=bZ.free 0;have JE:=bZ.free 1;clear bZ dM g3 aau;have gf:=(g4.set (X:=w.heap.size) (by omega) (Z5 _) 0 (.int .i64 k)).set (X:=w.heap.size) (by omega) (Z5 _) 1 (.string t3);have agC:=dh.cell 0 _ rfl;have agD:=dh.cell 1 _ rfl;have agE:=dh.free 0;have agF:=dh.free 1;have RY:=dw.cell 0 _ rfl;have RZ:=dw.cell 1 _ rfl;have agG:=dw.free 0;have agH:=dw.free 1;clear g4 dh dw;go_wp2_with fail
   exact bodyPost_ret (v:=.agg #[.int .i64 k,.string t3]) (by simp [results,Tryz.results70,go_sem,RY,RZ]) rfl ⟨_,_,agI,rfl,gf.k,gf.s.mono (by omega)⟩
theorem agJ (b m:Nat)(w:World)(hs:bQ b m w)(hm:m≤1000000000)(hP:Pool w)(hPb:1≠b) :
  Calls Tryz.prog 33 #[.pointer (some ⟨b,0,none⟩)] w (aas b (m + 10) w):=by
 have hlt:=hs.lt;have agA:=hP.lt;have HP0:Hid (Pool (w.alloc (.cells #[.int .i64 0,.string ⟨#[]⟩] 46))):=hP.keep (SK.dU (b:=b) ((ZX _ _).alloc (Z5 _) _)) hPb;clear hP;have g0:=(G.start hs).alloc (.cells #[.int .i64 0,.string ⟨#[]⟩] 46);have AO:=LV.new w w.heap.size #[.int .i64 0,.string ⟨#[]⟩] 46 rfl;go_enter Tryz.func33,Tryz.ntmps33
 go_wp2_with fail
 refine (flip_any b m _ _ g0.s (by omega) (by omega) (by omega)).mono ?_;rintro e w1 ⟨r,rfl,jO,og⟩;have qo:Hid (Pool w1):=HP0.out.keep jO hPb;have g1:=g0.step jO og;have bR1:=LV.keep AO jO (by omega);clear jO og g0 AO HP0;cases r
 ·go_wp2_with fail
  refine (next_any b _ _ _ g1.s (by omega) (by omega) (by omega)).mono ?_;rintro e w2 ⟨i,RX,agB,rfl,bW,dP⟩;obtain ⟨j,rfl⟩:=Zi RX;have HP2:Hid (Pool w2):=qo.out.keep bW hPb;obtain ⟨k,t,NG,pc0,pc1⟩:=HP2.out j (by omega);have g2:=g1.step bW dP;have bR2:=LV.keep bR1 bW (by omega);have gf:=(g2.set (X:=w.heap.size) (by omega) (Z5 _) 0 (.int .i64 k)).set (X:=w.heap.size) (by omega) (Z5 _) 1 (.string t);have Si:=bR2.cell 0 _ rfl;have Sj:=bR2.cell 1 _ rfl;have agK:=bR2.free 0;have agL:=bR2.free 1;clear bW dP g1 bR1 g2 bR2 qo HP2;go_wp2_with fail
  exact bodyPost_ret (v:=.agg #[.int .i64 k,.string t]) (by simp [results,Tryz.results33,go_sem,Si,Sj]) rfl ⟨_,_,(by omega),rfl,gf.k,gf.s.mono (by omega)⟩
 ·go_wp2_with fail
  refine (aat b _ _ g1.s (by omega) qo.out hPb).mono ?_;rintro e w2 ⟨k,t,NG,rfl,bW,dP⟩;have g2:=g1.step bW dP;have bR2:=LV.keep bR1 bW (by omega);have gf:=(g2.set (X:=w.heap.size) (by omega) (Z5 _) 0 (.int .i64 k)).set (X:=w.heap.size) (by omega) (Z5 _) 1 (.string t);have Si:=bR2.cell 0 _ rfl;have Sj:=bR2.cell 1 _ rfl;have agK:=bR2.free 0;have agL:=bR2.free 1;clear bW dP g1 bR1 g2 bR2 qo;go_wp2_with fail
  exact bodyPost_ret (v:=.agg #[.int .i64 k,.string t]) (by simp [results,Tryz.results33,go_sem,Si,Sj]) rfl ⟨_,_,NG,rfl,gf.k,gf.s.mono (by omega)⟩
end
end Go.Proofs.YtmkkppknaikjjaaGreatDoor
