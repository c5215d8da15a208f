/- Several texts in one: Stab3. -/
import Derived.Test.YtmkkppknaikjjaaGreatDoorPack5
/- Pairs in a slice of the call's own: one row is merged in place from the right. -/
set_option maxHeartbeats 8000000
set_option maxRecDepth 100000
open Go.Lib renaming hid→Z9
open List renaming getElem?_eq_getElem→Z8, length_append→Z4, length_cons→ZV, length_nil→ZO, append_assoc→ZM, append_nil→ZH, getElem?_append_right→ZF, getElem?_append_left→Zy, length→Zf, nil_append→Y4
open Nat renaming le_refl→Z5
namespace Go.Proofs.YtmkkppknaikjjaaGreatDoor
open Go Go.RowKit
def XH (c:au→au→Int)(xs:List au)(y:au)(a i:Nat):Prop:=∀ x,a < i→xs[i - 1]? =some x→¬ c y x < 0
def XI (c:au→au→Int)(xs:List au)(y:au)(b j:Nat):Prop:=∀ x,j < b→xs[j]? =some x→c y x < 0
theorem aeH {c:au→au→Int}(hc:fC c){w0 w:World}{cs:List Chunk}{B g n cap:Nat}(f:Nat)(caps:Array Value)(hf:CY f caps c)(P L:List au)(y:au)(Z:List au)(S:Mem w0 w (.own aY B 48 (.slice (some ⟨g,0,none⟩) n cap) (P++L++y::Z)::cs))(hn:n=(P++L++y::Z).length)(hl:n≤1000000)(hL:L.Pairwise (TB c au.ix))(hB:qO au.ix L [y])(a m b:Nat)(ha:a=P.length)(hm:m=a + L.length)(hb:b=m + 1)(h2:2≤L.length) :
  Calls Tryz.prog 206 #[.slice (some ⟨g,0,none⟩) n cap,.int .i64 a,.int .i64 m,.int .i64 b,.func (.func f) #[] caps] w (C9 c P (L++[y]) Z w0 cs B g n cap):=by
 have ef:=hf.1;have Hf:=Z9 hf.2;have Hn:=Z9 hn;have hlen:(P++L++y::Z).length=a + L.length + 1 + Z.length:=by rw [ha];simp;omega
 have hbn:b≤n:=by omega
 have Hym:Hid ((P++L++y::Z)[m]? =some y):=by
  show _=_;rw [hm,ha];exact wU P L y Z
 have Ha:=Z9 ha;have zV:=Z9 hL;have HB:=Z9 hB;have Hc:=Z9 hc;have Hb:=Z9 hb;have Hm:=Z9 hm;have MI:Hid (∀ k:Nat,k < L.length→(P++L++y::Z)[a + k]? =L[k]?):=fun k hk=>by
  rw [ZM,ZF (by omega),Zy (by omega)];congr 1
  omega
 have hma:a < m:=by omega
 have hmb:m < b:=by omega
 have e1:((m:Int) - (a:Int)==1)=false:=by
  have:(m:Int) - (a:Int)≠1:=by omega
  simpa using this
 have e2:((b:Int) - (m:Int)==1)=true:=by
  have:(b:Int) - (m:Int)=1:=by omega
  simpa using this
 obtain ⟨xs,Hxs⟩:∃ xs,Hid (P++L++y::Z=xs):=⟨_,Z9 rfl⟩;rw [Hxs.out] at Hym MI S Hn;clear hf hn hL hB ha hc hlen hb hm h2;go_enter Tryz.func206,Tryz.ntmps206
 go_wp2_with fail
 go_loopw [14,15] (fun s14 s15 wr=>∃ i j:Nat,s14=.int .i64 i∧s15=.int .i64 j∧a≤i∧i≤j∧j≤m∧Hid (XH c xs y a i)∧Hid (XI c xs y m j)∧Mem w0 wr (.own aY B 48 (.slice (some ⟨g,0,none⟩) n cap) xs::cs)) (fun s14 s15 _=>(intOf s15).toNat - (intOf s14).toNat)
 case atStart=>exact ⟨a,m,rfl,rfl,Z5 _,Nat.le_of_lt hma,Z5 _,(fun y h=>by omega),(fun y h=>by omega),S⟩
 case round =>
  clear S;obtain ⟨i,j,rfl,rfl,hai,hij,hjm,jI,jJ,S⟩:=hrel;by_cases hlt:i < j
  ·obtain ⟨h,h1,h2,eh⟩:=Qz hlt;obtain ⟨x,hx⟩:∃ x,xs[h]? =some x:=⟨_,Z8 (by have:=Hn.out;omega)⟩;have Hx:=Z9 hx;have uS:=Z9 (Fj (S.ow 0 rfl) Hn.out h x hx);have uQ:=Z9 (Fj (S.ow 0 rfl) Hn.out m y Hym.out);obtain ⟨cm,fO⟩:∃ cm,Hid (c y x=cm):=⟨_,Z9 rfl⟩;have HS:=Z9 S;have hhn:h < n:=by omega
   have hmn:m < n:=by omega
   clear S hx;go_upto_region 17 with fail
   go_wp2_with fail
   refine dF (fun w'=>Below wr.heap.size wr w') [(true,0),(true,1),(true,2),(true,3),(true,4),(true,5),(true,6),(true,7),(true,8),(false,9),(true,10),(true,11)] (by kernel_rfl) (by kernel_rfl) (fun w' hd=>hd.below _) (fun KK aF wd aW=>?_);have hC:=aW.below wr.heap.size;clear aW;refine aA ?_;refine bV (.agg (fJ y)) rfl rfl rfl (fun w' h=>uQ.out w' h) ?_;refine aA ?_;refine bV (.agg (fJ x)) rfl rfl rfl (fun w' h=>uS.out w' h) ?_;refine aA ?_;refine aV rfl (fun K hK=>?_) hC;have Ho:=Z9 (Hf.out y x wd);rw [show c y x=cm from fO.out] at Ho;go_wp2_with fail
   refine (Ho.out).mono ?_;rintro e w3 ⟨rfl,hl3⟩;have dB:=hC.trans (hl3.mono hC.size);clear Ho hl3;go_wp2_with fail
   refine ⟨dB,?_⟩;refine aA ?_;refine dG ?_;simp only [Exit.then];refine aF _ _ ?_;have S1:=HS.out.below dB;clear HS hC dB uS uQ;generalize hbb:(!decide (cm < 0))=bb;cases bb
   ·have hcm:cm < 0:=by simpa using hbb
    have Df:Hid (XI c xs y m h):=fun z _ hz=>by
     rw [Hx.out] at hz;cases hz;rw [fO.out];exact hcm
    clear hbb hcm;go_wp2_with fail
    go_roundw
    case rel=>exact ⟨i,h,rfl,rfl,hai,h1,by omega,jI,Df,S1⟩
    case measure=>simp [intOf];omega
   ·have hcm:¬ cm < 0:=by have:0≤cm:=(by simpa using hbb);omega
    have Dc:Hid (XH c xs y a (h + 1)):=fun z _ hz=>by
     rw [Nat.add_sub_cancel,Hx.out] at hz;cases hz;rw [fO.out];exact hcm
    clear hbb hcm;go_wp2_with fail
    go_roundw
    case rel=>exact ⟨h + 1,j,by first | rfl | go_num,by first | rfl | go_num,by omega,by omega,hjm,Dc,jJ,S1⟩
    case measure=>simp [intOf];omega
  ·obtain rfl:i=j:=by omega
   clear hlt hij;obtain ⟨L1,L2,yt,hL1⟩:=IC L (i - a) (by have:=Hm.out;omega);have hi0:i=a + L1.length:=by omega
   have XJ:L.length=L1.length + L2.length:=by rw [yt,Z4]
   have gV:Hid ((L1++y::L2).Perm (L++[y])∧(L1++y::L2).Pairwise (TB c au.ix)):=by
    have h3:=LZ (ix:=au.ix) (y:=y) (L1:=L1) (L2:=L2) Hc.out (by rw [← yt];exact zV.out) (by rw [← yt];exact HB.out) (fun x hx=>jI.out x (by
     have h4:0 < L1.length:=by cases L1 with | nil=>cases hx | cons _ _=>simp
     omega) (by
     have h4:0 < L1.length:=by cases L1 with | nil=>cases hx | cons _ _=>simp
     have h5:=MI.out (L1.length - 1) (by omega);rw [show a + (L1.length - 1)=i - 1 by omega] at h5;rw [h5,yt];have h6:=XD (P:=[]) (B:=L2) hx;simpa using h6)) (fun x hx=>jJ.out x (by
     have h4:0 < L2.length:=by cases L2 with | nil=>cases hx | cons _ _=>simp
     have:=Hm.out
     omega) (by
     have h4:0 < L2.length:=by cases L2 with | nil=>cases hx | cons _ _=>simp
     have h5:=MI.out L1.length (by omega);rw [← hi0] at h5;rw [h5,yt];have h6:=XE (P:=[]) (A:=L1) (C:=[]) hx;simpa using h6))
    rw [yt];exact h3
   have S0:Mem w0 wr (.own aY B 48 (.slice (some ⟨g,0,none⟩) n cap) (P++L1++L2++y::([]++Z))::cs):=by
    rw [show P++L1++L2++y::([]++Z)=xs by rw [← Hxs.out,yt];simp];exact S
   have IZ:Hid (n=P.length + L1.length + L2.length + 1 + Z.length):=by
    show _=_;rw [Hn.out,← Hxs.out,yt];simp only [Z4,ZV];omega
   have zU:Hid (i=P.length + L1.length):=by show _=_;have:=Ha.out;omega
   have Dh:Hid (m=i + L2.length):=by show _=_;have:=Hm.out;omega
   have him:i≤m:=by have:=Hm.out;omega
   clear S jI jJ MI Hn Hym yt hL1 hi0 zV HB Hb Hxs XJ Hm Ha;go_wp2_with fail
   go_loopw [17] (fun Di wq=>∃ (k:Nat) (Q1 Q2:List au),Di=.int .i64 k∧k≤m∧i≤k∧Hid (L2=Q1++Q2)∧Hid (k=i + Q1.length)∧Mem w0 wq (.own aY B 48 (.slice (some ⟨g,0,none⟩) n cap) (P++L1++Q1++y::(Q2++Z))::cs)) (fun Di _=>(intOf Di).toNat)
   case atStart=>exact ⟨m,L2,[],rfl,Z5 _,him,(ZH _).symm,Dh.out,S0⟩
   case round =>
    clear S0;obtain ⟨k,Q1,Q2,rfl,hk,hik,HQ,Hk,S⟩:=hrel;by_cases hlt:i < k
    ·rcases List.eq_nil_or_concat Q1 with rfl | ⟨Q0,z,rfl⟩
     ·exfalso;have h2:=Hk.out;rw [ZO] at h2;omega
     ·rw [List.concat_eq_append] at *;obtain ⟨k0,hk0⟩:∃ k0,k0=i + Q0.length:=⟨_,rfl⟩;obtain rfl:k=k0 + 1:=by have h1:=Hk.out;simp only [Z4,ZV,ZO] at h1;omega
      have hyl:Hid (n=(P++L1++(Q0++[z])++y::(Q2++Z)).length):=by
       show _=_;have h1:=congrArg Zf HQ.out;have h2:=IZ.out;simp only [Z4,ZV,ZO] at h1 h2 ⊢;omega
      have hkn:k0 + 1 < n:=by have:=IZ.out;have:=zU.out;have:=Dh.out;omega
      have hzz:k0=(P++L1).length + Q0.length:=by have:=zU.out;rw [Z4];omega
      have XK:=Z9 hzz;have HZ:Hid ((P++L1++(Q0++[z])++y::(Q2++Z))[k0]? =some z):=by
       show _=_;rw [hzz,show P++L1++(Q0++[z])++y::(Q2++Z)=(P++L1)++Q0++z::(y::(Q2++Z)) by simp];exact wU (P++L1) Q0 z _
      have HY:Hid ((P++L1++(Q0++[z])++y::(Q2++Z))[k0 + 1]? =some y):=by
       show _=_;have h1:=wU (P++L1) (Q0++[z]) y (Q2++Z);rw [show (P++L1).length + (Q0++[z]).length=k0 + 1 by rw [hzz];simp;omega] at h1;exact h1
      obtain ⟨⟨c0,c1,c2,c3,c4⟩,IQ,cf1,IU,cf3,IV⟩:=(S.ow 0 rfl).uP hyl.out k0 z HZ.out;obtain ⟨⟨d0,d1,d2,d3,d4⟩,CZ,jy,df2,IW,IX⟩:=(S.ow 0 rfl).uP hyl.out (k0 + 1) y HY.out;have HS:=Z9 S;have alB:i≤k0:=by omega
      have e0:(decide ((i:Int) < ((k0 + 1:Nat):Int)))=true:=by rw [decide_eq_true_eq];omega
      have Qy:(decide ((i:Int) < (k0:Int) + 1))=true:=by rw [decide_eq_true_eq];omega
      have e3:((k0 + 1:Nat):Int) - 1=(k0:Int):=by omega
      have hkz:(k0:Int) < n:=by omega
      clear S hk0 hzz;go_wp2_with fail
      go_region
      go_wp2_with fail
      go_roundw
      case rel =>
       have S2:=HS.out.MG hyl.out (k0 + 1) k0 y z HY.out HZ.out (by omega);refine ⟨k0,Q0,z::Q2,by go_num,by omega,by omega,(by show _=_;rw [HQ.out];simp),(by show _=_;have h1:=XK.out;have h2:=zU.out;rw [Z4] at h1;omega),?_⟩;have e9:=Xh (P++L1++Q0) (Q2++Z) z y;rw [Z4,← XK.out] at e9;rw [show P++L1++(Q0++[z])++y::(Q2++Z)=P++L1++Q0++z::y::(Q2++Z) by simp,e9] at S2;rw [show P++L1++Q0++y::(z::Q2++Z)=P++L1++Q0++y::z::(Q2++Z) by simp];exact S2.below ((show je _ _ from rfl).below _)
      case measure=>simp [intOf]
    ·have hQ:Q1=[]:=by
      have h2:=Hk.out;exact List.length_eq_zero_iff.1 (by omega)
     subst hQ;obtain rfl:k=i:=by omega
     have QA:Hid (L2=Q2):=by show _=_;rw [HQ.out,Y4]
     clear hlt;go_wp2_with fail
     go_end0;refine ⟨rfl,L1++y::L2,gV.out.1,gV.out.2,?_⟩;rw [QA.out,show P++(L1++y::Q2)++Z=P++L1++[]++y::(Q2++Z) by simp];exact S
end Go.Proofs.YtmkkppknaikjjaaGreatDoor
