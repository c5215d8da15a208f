/- Several texts in one: Stab4. -/
import Derived.Test.YtmkkppknaikjjaaGreatDoorPack6
/- Pairs in a slice of the call's own: two sorted stretches are merged in place, whatever their lengths. -/
set_option maxHeartbeats 16000000
set_option maxRecDepth 100000
open Go.Lib renaming hid→Z9
open List renaming getElem?_eq_getElem→Z8, length_append→Z4, append_assoc→ZM, append_nil→ZH, getElem?_append_right→ZF, getElem?_append_left→Zy, mem_append_left→Za, nil_append→Y4
open Nat renaming le_refl→Z5
open Bool renaming and_eq_true→ZQ
namespace Go.Proofs.YtmkkppknaikjjaaGreatDoor
open Go Go.RowKit
def MJ (c:au→au→Int)(xs:List au)(n s0 s:Nat):Prop:=∀ x y,s0 < s→xs[s - 1]? =some x→xs[n - s]? =some y→¬ c y x < 0
def MK (c:au→au→Int)(xs:List au)(n r0 r:Nat):Prop:=∀ x y,r < r0→xs[r]? =some x→xs[n - 1 - r]? =some y→c y x < 0
theorem XL {α:Type}{P L R Z:List α}{k:Nat}(h1:P.length≤k)(h2:k < P.length + L.length):(P++L++R++Z)[k]? =L[k - P.length]? :=by
 rw [ZM,ZM,ZF h1,Zy (by omega)]
theorem XM {α:Type}{P L R Z:List α}{k:Nat}(h1:P.length + L.length≤k)(h2:k < P.length + L.length + R.length):(P++L++R++Z)[k]? =R[k - (P.length + L.length)]? :=by
 rw [ZM,ZF (by simpa using h1),Zy (by simp;omega),Z4]
theorem XO {α:Type}{A B:List α}{x:α}(h:A.getLast? =some x):(A++B)[A.length - 1]? =some x∧0 < A.length:=last_at h
theorem XP {α:Type}{A B:List α}{x:α}(h:B.head? =some x):(A++B)[A.length]? =some x∧0 < B.length:=⟨aen h,by cases B with | nil=>cases h | cons _ _=>simp⟩
structure ML (a m b mid s0 r0:Nat):Prop where
 h1:a≤s0
 h2:s0≤r0
 h3:r0≤m
 h4:m≤mid + m - r0
 h5:mid + m - s0≤b
 h6:r0≤mid
 h7:mid + m - s0 < b→s0=a
 h8:m < mid + m - r0→r0=m
 h9:a < mid∧mid < b
theorem aeI {a m b mid:Nat}(h:m > mid)(h1:a < m)(h2:m < b)(h3:mid=(a + b) / 2):ML a m b mid (mid + m - b) mid:=by
 constructor <;> omega
theorem aeJ {a m b mid:Nat}(h:¬ m > mid)(h1:a < m)(_h2:m < b)(h3:mid=(a + b) / 2):ML a m b mid a m:=by
 constructor <;> omega
theorem aeK {c:au→au→Int}{P L R Z:List au}{a m b mid s0 r0 s:Nat}(ha:a=P.length)(hm:m=a + L.length)(hb:b=m + R.length)(hB:ML a m b mid s0 r0)(h1:s0≤s)(h2:s≤r0)(lo:MJ c (P++L++R++Z) (mid + m) s0 s)(hi:MK c (P++L++R++Z) (mid + m) r0 s) :
  ∃ L1 L2 R1 R2,L=L1++L2∧R=R1++R2∧s=a + L1.length∧mid + m - s=m + R1.length∧mid=s + R1.length∧mid + L2.length=mid + m - s∧(∀ x y,L1.getLast? =some x→R2.head? =some y→¬ c y x < 0)∧(∀ y x,R1.getLast? =some y→L2.head? =some x→c y x < 0):=by
 obtain ⟨b1,b2,b3,b4,b5,b6,b7,b8,b9⟩:=hB;obtain ⟨L1,L2,hL,hl1⟩:=IC L (s - a) (by omega);obtain ⟨R1,R2,hR,hr1⟩:=IC R (mid - s) (by omega);have XJ:L.length=L1.length + L2.length:=by rw [hL,Z4]
 have hRl:R.length=R1.length + R2.length:=by rw [hR,Z4]
 refine ⟨L1,L2,R1,R2,hL,hR,by omega,by omega,by omega,by omega,fun x y hx hy=>?_,fun y x hy hx=>?_⟩
 ·obtain ⟨g1,g2⟩:=XO (B:=L2) hx;obtain ⟨g3,g4⟩:=XP (A:=R1) hy;rw [← hL] at g1;rw [← hR] at g3;refine lo x y (by omega) ?_ ?_
  ·rw [XL (by omega) (by omega),show s - 1 - P.length=L1.length - 1 by omega];exact g1
  ·rw [XM (by omega) (by omega),show mid + m - s - (P.length + L.length)=R1.length by omega];exact g3
 ·obtain ⟨g1,g2⟩:=XO (B:=R2) hy;obtain ⟨g3,g4⟩:=XP (A:=L1) hx;rw [← hR] at g1;rw [← hL] at g3;refine hi x y (by omega) ?_ ?_
  ·rw [XL (by omega) (by omega),show s - P.length=L1.length by omega];exact g3
  ·rw [XM (by omega) (by omega),show mid + m - 1 - s - (P.length + L.length)=R1.length - 1 by omega];exact g1
theorem qO.parts {L1 L2 R1 R2:List au}(h:qO au.ix (L1++L2) (R1++R2)):qO au.ix L1 R1∧qO au.ix L2 R2:=⟨fun x hx y hy=>h x (Za _ hx) y (Za _ hy),fun x hx y hy=>h x (List.mem_append_right _ hx) y (List.mem_append_right _ hy)⟩
def QB (c:au→au→Int)(f:Nat)(caps:Array Value)(w0:World)(cs:List Chunk)(B g n cap N:Nat):Prop:=∀ (w:World) (P L R Z:List au) (a m b:Nat),L.length + R.length≤N→0 < L.length→0 < R.length→Mem w0 w (.own aY B 48 (.slice (some ⟨g,0,none⟩) n cap) (P++L++R++Z)::cs)→n=(P++L++R++Z).length→L.Pairwise (TB c au.ix)→R.Pairwise (TB c au.ix)→qO au.ix L R→a=P.length→m=a + L.length→b=m + R.length →
  Calls Tryz.prog 206 #[.slice (some ⟨g,0,none⟩) n cap,.int .i64 a,.int .i64 m,.int .i64 b,.func (.func f) #[] caps] w (C9 c P (L++R) Z w0 cs B g n cap)
theorem aeL {c:au→au→Int}(hc:fC c)(f:Nat)(caps:Array Value)(hf:CY f caps c){w0:World}{cs:List Chunk}{B g n cap:Nat}(hl:n≤1000000)(N:Nat)(XQ:QB c f caps w0 cs B g n cap N):QB c f caps w0 cs B g n cap (N + 1):=by
 intro w P L R Z a m b h0 h1 h2 S hn hL hR hB ha hm hb;by_cases hL1:L.length=1
 ·obtain ⟨x,rfl⟩:=List.length_eq_one_iff.1 hL1;have:=aeG hc f caps hf P x R Z (by rw [show P++x::R++Z=P++[x]++R++Z by simp];exact S) (by rw [hn];simp) hl hR hB a m b ha (by omega) hb
  exact this
 ·by_cases hR1:R.length=1
  ·obtain ⟨y,rfl⟩:=List.length_eq_one_iff.1 hR1;have:=aeH hc f caps hf P L y Z (by rw [show P++L++y::Z=P++L++[y]++Z by simp];exact S) (by rw [hn];simp) hl hL hB a m b ha hm (by omega) (by omega)
   exact this
  ·have ef:=hf.1;have Hf:=Z9 hf.2;have IH:=Z9 XQ;clear XQ;obtain ⟨mid,hmid⟩:∃ mid,mid=(a + b) / 2:=⟨_,rfl⟩;have Hlen:Hid (n=a + L.length + R.length + Z.length):=by show _=_;rw [hn,ha];simp;omega
   have hbn:b≤n:=by have:=Hlen.out;omega
   obtain ⟨s0,r0,hs0,hB0⟩:∃ s0 r0,(if m > mid then s0=mid + m - b∧r0=mid else s0=a∧r0=m)∧ML a m b mid s0 r0:=by
    by_cases h:m > mid
    ·exact ⟨_,_,by rw [if_pos h];exact ⟨rfl,rfl⟩,aeI h (by omega) (by omega) hmid⟩
    ·exact ⟨_,_,by rw [if_neg h];exact ⟨rfl,rfl⟩,aeJ h (by omega) (by omega) hmid⟩
   obtain ⟨xs,Hxs⟩:∃ xs,Hid (P++L++R++Z=xs):=⟨_,Z9 rfl⟩;have yu:Hid (∀ s,s0≤s→s≤r0→MJ c xs (mid + m) s0 s→MK c xs (mid + m) r0 s→∃ L1 L2 R1 R2,L=L1++L2∧R=R1++R2∧s=a + L1.length∧mid + m - s=m + R1.length∧mid=s + R1.length∧mid + L2.length=mid + m - s∧(∀ x y,L1.getLast? =some x→R2.head? =some y→¬ c y x < 0)∧(∀ y x,R1.getLast? =some y→L2.head? =some x→c y x < 0)):=fun s g1 g2 g3 g4=>by
    rw [← Hxs.out] at g3 g4;exact aeK ha hm hb hB0 g1 g2 g3 g4
   rw [Hxs.out] at S hn;have Hn:=Z9 hn;have e1:((m:Int) - (a:Int)==1)=false:=by
    have:(m:Int) - (a:Int)≠1:=by omega
    simpa using this
   have e2:((b:Int) - (m:Int)==1)=false:=by
    have:(b:Int) - (m:Int)≠1:=by omega
    simpa using this
   have e3:((a:Int) + (b:Int)) / 2=(mid:Int):=by omega
   have QC:=Z9 hs0;have HB0:=Z9 hB0;have HL:=Z9 hL;have HR:=Z9 hR;have HB:=Z9 hB;have Hc:=Z9 hc;have Ha:=Z9 ha;have H0:=Z9 h0;have Fp:Hid (m=a + L.length∧b=m + R.length):=⟨hm,hb⟩;have hsr:s0≤r0:=hB0.h2;have hrm:r0≤m:=hB0.h3;have hrd:r0≤mid:=hB0.h6;have XR:mid < b:=hB0.h9.2;have ham:a < m:=by omega
   have hmb:m < b:=by omega
   clear hf hn hmid hs0 hB0 hL hR hB hc ha hm hb h0 h1 h2 hL1 hR1;go_enter Tryz.func206,Tryz.ntmps206
   go_upto_if 140 with fail
   go_cut [20,21] from 138 to 146 (fun s20 I4 wx=>s20=.int .i64 s0∧I4=.int .i64 r0∧wx=w)
   case first =>
    by_cases hmm:m > mid
    ·obtain ⟨hs,hr⟩:s0=mid + m - b∧r0=mid:=by have:=QC.out;rw [if_pos hmm] at this;exact this
     have e5:(mid:Int) + (m:Int) - (b:Int)=(s0:Int):=by have:=HB0.out.h5;have:=HB0.out.h1;omega
     have aeM:(mid:Int) < (m:Int):=by omega
     have Hr:=Z9 hr;clear hs hr;go_wp2_with fail
     go_meet;exact ⟨by first | rfl | go_num,by rw [Hr.out],rfl⟩
    ·obtain ⟨hs,hr⟩:s0=a∧r0=m:=by have:=QC.out;rw [if_neg hmm] at this;exact this
     have aeM:¬ ((mid:Int) < (m:Int)):=by omega
     have Hr:=Z9 hr;have Hs:=Z9 hs;clear hs hr;go_wp2_with fail
     go_meet;exact ⟨by rw [Hs.out],by rw [Hr.out],rfl⟩
   case rest =>
    obtain ⟨rfl,rfl,rfl⟩:=hcut;go_wp2_with fail
    have HF:Hid (s0≤r0∧r0≤m∧r0≤mid∧mid < b∧a < m∧m < b∧b≤n∧n≤1000000):=⟨hsr,hrm,hrd,XR,ham,hmb,hbn,hl⟩;clear hrm hrd XR ham hmb hbn e3;go_loopw [20,21] (fun s20 I4 wr=>∃ s r:Nat,s20=.int .i64 s∧I4=.int .i64 r∧s0≤s∧s≤r∧r≤r0∧Hid (MJ c xs (mid + m) s0 s)∧Hid (MK c xs (mid + m) r0 r)∧Mem w0 wr (.own aY B 48 (.slice (some ⟨g,0,none⟩) n cap) xs::cs)) (fun s20 I4 _=>(intOf I4).toNat - (intOf s20).toNat)
    case atStart=>exact ⟨s0,r0,rfl,rfl,Z5 _,hsr,Z5 _,(fun x y h=>by omega),(fun x y h=>by omega),S⟩
    case round =>
     clear S hsr;obtain ⟨s,r,rfl,rfl,hs,XT,hr,jI,jJ,S⟩:=hrel;by_cases hlt:s < r
     ·obtain ⟨h,h1,h2,eh⟩:=Qz hlt;obtain ⟨q,hq⟩:∃ q:Nat,q=mid + m - 1 - h:=⟨_,rfl⟩;obtain ⟨f1,f2,f3,f4,f5,f6,f7,f8⟩:=HF.out;have hqb:q < b:=by have:=HB0.out.h5;omega
      have wR:q < n:=by omega
      have hhn:h < n:=by omega
      have e5:(mid:Int) + (m:Int) - 1 - (h:Int)=(q:Int):=by omega
      have HG:Hid (s0≤s∧s≤h∧h < r∧r≤r0∧s0≤h):=⟨hs,h1,h2,hr,by omega⟩;obtain ⟨x,hx⟩:∃ x,xs[h]? =some x:=⟨_,Z8 (by have:=Hn.out;omega)⟩;obtain ⟨y,hy⟩:∃ y,xs[q]? =some y:=⟨_,Z8 (by have:=Hn.out;omega)⟩;have uS:=Z9 (Fj (S.ow 0 rfl) Hn.out h x hx);have uQ:=Z9 (Fj (S.ow 0 rfl) Hn.out q y hy);obtain ⟨cm,fO⟩:∃ cm,Hid (c y x=cm):=⟨_,Z9 rfl⟩;have HS:=Z9 S;have Dc:Hid (¬ cm < 0→MJ c xs (mid + m) s0 (h + 1)):=fun hc x' y' _ hx' hy'=>by
       rw [Nat.add_sub_cancel,hx] at hx';rw [show mid + m - (h + 1)=q by omega,hy] at hy';cases hx';cases hy';rw [fO.out];exact hc
      have Df:Hid (cm < 0→MK c xs (mid + m) r0 h):=fun hc x' y' _ hx' hy'=>by
       rw [hx] at hx';rw [show mid + m - 1 - h=q by omega,hy] at hy';cases hx';cases hy';rw [fO.out];exact hc
      clear S hx hy hq f1 f2 f3 f4 f5 f6 f7 f8 hs XT hr hqb hlt;go_upto_region 35 with fail
      clear h1 h2 eh;go_wp2_with fail
      refine dF (fun w'=>Below wr.heap.size wr w') [(true,0),(true,1),(true,2),(true,3),(true,4),(true,5),(true,6),(true,7),(true,8),(true,9),(true,10),(false,11),(true,12),(true,13)] (by kernel_rfl) (by kernel_rfl) (fun w' hd=>hd.below _) (fun KK aF wd aW=>?_);have hC:=aW.below wr.heap.size;clear aW;refine aA ?_;refine bV (.agg (fJ y)) rfl rfl rfl (fun w' h=>uQ.out w' h) ?_;refine aA ?_;refine bV (.agg (fJ x)) rfl rfl rfl (fun w' h=>uS.out w' h) ?_;refine aA ?_;refine aV rfl (fun K hK=>?_) hC;have Ho:=Z9 (Hf.out y x wd);rw [show c y x=cm from fO.out] at Ho;go_wp2_with fail
      refine (Ho.out).mono ?_;rintro e w3 ⟨rfl,hl3⟩;have dB:=hC.trans (hl3.mono hC.size);clear Ho hl3;go_wp2_with fail
      refine ⟨dB,?_⟩;refine aA ?_;refine dG ?_;simp only [Exit.then];refine aF _ _ ?_;have S1:=HS.out.below dB;clear HS hC dB uS uQ;generalize hbb:(!decide (cm < 0))=bb;cases bb
      ·have aeN:=Z9 (Df.out (by simpa using hbb));clear hbb Df Dc;go_wp2_with fail
       go_roundw
       case rel =>
        obtain ⟨g1,g2,g3,g4,g5⟩:=HG.out;exact ⟨s,h,rfl,rfl,g1,g2,by omega,jI,aeN.out,S1⟩
       case measure =>
        obtain ⟨g1,g2,g3,g4,g5⟩:=HG.out;simp [intOf];omega
      ·have aeO:=Z9 (Dc.out (by have:0≤cm:=(by simpa using hbb);omega));clear hbb Df Dc;go_wp2_with fail
       go_roundw
       case rel =>
        obtain ⟨g1,g2,g3,g4,g5⟩:=HG.out;obtain ⟨f1,f2,f3,f4,f5,f6,f7,f8⟩:=HF.out;exact ⟨h + 1,r,by first | rfl | go_num,by first | rfl | go_num,by omega,by omega,g4,aeO.out,jJ,S1⟩
       case measure =>
        obtain ⟨g1,g2,g3,g4,g5⟩:=HG.out;simp [intOf];omega
     ·obtain rfl:s=r:=by omega
      obtain ⟨L1,L2,R1,R2,zW,zX,hs1,hE1,aeP,hE2,hA,hC⟩:=yu.out s hs hr jI.out jJ.out;have HF2:=HF.out;clear hlt XT yu jI jJ;obtain ⟨E,hE⟩:∃ E:Nat,E=mid + m - s:=⟨_,rfl⟩;have hbl:=Fp.out;rw [zW,zX,Z4,Z4] at hbl;have hlen0:=Hlen.out;rw [zW,zX,Z4,Z4] at hlen0;have eE:(mid:Int) + (m:Int) - (s:Int)=(E:Int):=by omega
      have S0:Mem w0 wr (.own aY B 48 (.slice (some ⟨g,0,none⟩) n cap) (P++L1++L2++R1++(R2++Z))::cs):=by
       rw [show P++L1++L2++R1++(R2++Z)=xs by rw [← Hxs.out,zW,zX];simp];exact S
      have zV:Hid ((L1++L2).Pairwise (TB c au.ix)):=by have:=HL.out;rw [zW] at this;exact this
      have HRs:Hid ((R1++R2).Pairwise (TB c au.ix)):=by have:=HR.out;rw [zX] at this;exact this
      have QD:Hid (qO au.ix (L1++L2) (R1++R2)):=by have:=HB.out;rw [zW,zX] at this;exact this
      have XU:Hid ((∀ x y,L1.getLast? =some x→R2.head? =some y→¬ c y x < 0)∧(∀ y x,R1.getLast? =some y→L2.head? =some x→c y x < 0)):=⟨fun x y hx hy=>by have:=hA x y hx hy;omega,hC⟩;have Fq:Hid (a=P.length∧s=a + L1.length∧m=s + L2.length∧E=m + R1.length∧b=E + R2.length∧mid=s + R1.length∧E=mid + L2.length∧n=a + L1.length + L2.length + R1.length + R2.length + Z.length∧mid < b∧a < mid∧L1.length + L2.length + R1.length + R2.length≤N + 1):=by
       have h9:=HB0.out.h9;have h10:=H0.out;rw [zW,zX,Z4,Z4] at h10;exact ⟨Ha.out,by omega,by omega,by omega,by omega,by omega,by omega,by omega,by omega,by omega,by omega⟩
      have aeQ:Hid (P++(L1++L2++(R1++R2))++Z=P++(L++R)++Z∧L++R=L1++L2++(R1++R2)):=by rw [zW,zX];exact ⟨rfl,rfl⟩
      obtain ⟨B1,HB1⟩:∃ B1:Bool,Hid ((decide (s < m) && decide (m < E))=B1):=⟨_,Z9 rfl⟩;obtain ⟨B2,HB2⟩:∃ B2:Bool,Hid ((decide (a < s) && decide (s < mid))=B2):=⟨_,Z9 rfl⟩;obtain ⟨B3,HB3⟩:∃ B3:Bool,Hid ((decide (mid < E) && decide (E < b))=B3):=⟨_,Z9 rfl⟩;have hEb:E≤1000000:=by omega
      clear zW zX hs1 hE1 aeP hE2 hA hC hE hbl hlen0 S HL HR HB Hxs HB0 QC Fp Hlen Hn HF2 HF hs hr Ha H0;go_upto_region 39 with fail
      clear eE;go_cut [185] from 178 to 185 (fun aeR wx=>aeR=.bool B1∧wr=wx)
      case first =>
       clear S0;by_cases h1:s < m
       ·by_cases h2:m < E
        ·go_wp2_with fail
         go_meet;exact ⟨by rw [← HB1.out,decide_eq_true h1,decide_eq_true h2];rfl,rfl⟩
        ·go_wp2_with fail
         go_meet;exact ⟨by rw [← HB1.out,decide_eq_false h2,Bool.and_false],rfl⟩
       ·go_wp2_with fail
        go_meet;exact ⟨by rw [← HB1.out,decide_eq_false h1,Bool.false_and],rfl⟩
      case rest =>
       obtain ⟨rfl,rfl⟩:=hcut;go_upto_if 185 with fail
       go_cut [20] from 186 to 191 (fun s20 wx=>s20=.int .i64 s∧Mem w0 wx (.own aY B 48 (.slice (some ⟨g,0,none⟩) n cap) (P++L1++R1++(L2++(R2++Z)))::cs))
       case first =>
        cases B1 with
        | false =>
         have I5:Hid (Mem w0 wr (.own aY B 48 (.slice (some ⟨g,0,none⟩) n cap) (P++L1++R1++(L2++(R2++Z)))::cs)):=by
          obtain ⟨l1,l2,l3,l4,l5,l6,l7,l8,l9,l10,I7⟩:=Fq.out;have h1:=HB1.out;rw [Bool.and_eq_false_iff,decide_eq_false_iff_not,decide_eq_false_iff_not] at h1;show Mem _ _ _;rw [show P++L1++R1++(L2++(R2++Z))=P++L1++L2++R1++(R2++Z) by
           rcases h1 with h1 | h1
           ·have:L2=[]:=List.length_eq_zero_iff.1 (by omega)
            rw [this];simp
           ·have:R1=[]:=List.length_eq_zero_iff.1 (by omega)
            rw [this];simp]
          exact S0
         clear S0;go_wp2_with fail
         go_meet;exact ⟨rfl,I5.out⟩
        | true =>
         have aeS:Hid (Calls Tryz.prog 279 #[.slice (some ⟨g,0,none⟩) n cap,.int .i64 s,.int .i64 m,.int .i64 E,.func (.func f) #[] caps] wr (Xx (P++L1++R1++L2++(R2++Z)) w0 cs B g n cap)):=by
          obtain ⟨l1,l2,l3,l4,l5,l6,l7,l8,l9,l10,I7⟩:=Fq.out;have h1:=HB1.out;rw [ZQ,decide_eq_true_eq,decide_eq_true_eq] at h1;exact aeE (P++L1) L2 R1 (R2++Z) S0 (by simp only [Z4];omega) hl (by omega) (by omega) s m E (by rw [Z4];omega) (by rw [Z4];omega) (by rw [Z4];omega) _
         clear S0;go_wp2_with fail
         refine (aeS.out).mono ?_;rintro e w2 ⟨rfl,S1⟩;have I5:Hid (Mem w0 w2 (.own aY B 48 (.slice (some ⟨g,0,none⟩) n cap) (P++L1++R1++(L2++(R2++Z)))::cs)):=by
          show Mem _ _ _;rw [show P++L1++R1++(L2++(R2++Z))=P++L1++R1++L2++(R2++Z) by simp];exact S1
         clear S1;go_wp2_with fail
         go_meet;exact ⟨rfl,I5.out⟩
       case rest =>
        obtain ⟨rfl,S1⟩:=hcut;clear S0;go_upto_region 41 with fail
        generalize wc=w3 at *;go_cut [199] from 192 to 199 (fun aeT wx=>aeT=.bool B2∧w3=wx)
        case first =>
         clear S1;by_cases h1:a < s
         ·by_cases h2:s < mid
          ·go_wp2_with fail
           go_meet;exact ⟨by rw [← HB2.out,decide_eq_true h1,decide_eq_true h2];rfl,rfl⟩
          ·go_wp2_with fail
           go_meet;exact ⟨by rw [← HB2.out,decide_eq_false h2,Bool.and_false],rfl⟩
         ·go_wp2_with fail
          go_meet;exact ⟨by rw [← HB2.out,decide_eq_false h1,Bool.false_and],rfl⟩
        case rest =>
         obtain ⟨rfl,rfl⟩:=hcut;go_upto_if 199 with fail
         go_cut [20] from 200 to 205 (fun s20 wx=>s20=.int .i64 s∧∃ M1:List au,Hid (M1.Perm (L1++R1))∧Hid (M1.Pairwise (TB c au.ix))∧Mem w0 wx (.own aY B 48 (.slice (some ⟨g,0,none⟩) n cap) (P++M1++(L2++(R2++Z)))::cs))
         case first =>
          cases B2 with
          | false =>
           have HS2:Hid ((L1++R1).Pairwise (TB c au.ix)∧Mem w0 w3 (.own aY B 48 (.slice (some ⟨g,0,none⟩) n cap) (P++(L1++R1)++(L2++(R2++Z)))::cs)):=by
            obtain ⟨l1,l2,l3,l4,l5,l6,l7,l8,l9,l10,I7⟩:=Fq.out;have h1:=HB2.out;rw [Bool.and_eq_false_iff,decide_eq_false_iff_not,decide_eq_false_iff_not] at h1;refine ⟨?_,?_⟩
            ·rcases h1 with h1 | h1
             ·have:L1=[]:=List.length_eq_zero_iff.1 (by omega)
              rw [this,Y4];exact (List.pairwise_append.1 HRs.out).1
             ·have:R1=[]:=List.length_eq_zero_iff.1 (by omega)
              rw [this,ZH];exact (List.pairwise_append.1 zV.out).1
            ·rw [show P++(L1++R1)++(L2++(R2++Z))=P++L1++R1++(L2++(R2++Z)) by simp];exact S1
           clear S1;go_wp2_with fail
           go_meet;exact ⟨rfl,L1++R1,.refl _,HS2.out.1,HS2.out.2⟩
          | true =>
           have oh:Hid (Calls Tryz.prog 206 #[.slice (some ⟨g,0,none⟩) n cap,.int .i64 a,.int .i64 s,.int .i64 mid,.func (.func f) #[] caps] w3 (C9 c P (L1++R1) (L2++(R2++Z)) w0 cs B g n cap)):=by
            obtain ⟨l1,l2,l3,l4,l5,l6,l7,l8,l9,l10,I7⟩:=Fq.out;have h1:=HB2.out;rw [ZQ,decide_eq_true_eq,decide_eq_true_eq] at h1;exact IH.out w3 P L1 R1 (L2++(R2++Z)) a s mid (by omega) (by omega) (by omega) S1 (by simp only [Z4];omega) (List.pairwise_append.1 zV.out).1 (List.pairwise_append.1 HRs.out).1 QD.out.parts.1 l1 l2 l6
           clear S1;go_wp2_with fail
           refine (oh.out).mono ?_;rintro e w4 ⟨rfl,M1,hp1,hs1,S2⟩;have yw:=Z9 hp1;have zG:=Z9 hs1;have HS2:=Z9 S2;clear hp1 hs1 S2;go_wp2_with fail
           go_meet;exact ⟨rfl,M1,yw,zG,HS2.out⟩
         case rest =>
          obtain ⟨rfl,M1,yw,zG,S2⟩:=hcut;clear S1;go_upto_region 43 with fail
          generalize wc=w5 at *;go_cut [213] from 206 to 213 (fun aeU wx=>aeU=.bool B3∧w5=wx)
          case first =>
           clear S2;by_cases h1:mid < E
           ·by_cases h2:E < b
            ·go_wp2_with fail
             go_meet;exact ⟨by rw [← HB3.out,decide_eq_true h1,decide_eq_true h2];rfl,rfl⟩
            ·go_wp2_with fail
             go_meet;exact ⟨by rw [← HB3.out,decide_eq_false h2,Bool.and_false],rfl⟩
           ·go_wp2_with fail
            go_meet;exact ⟨by rw [← HB3.out,decide_eq_false h1,Bool.false_and],rfl⟩
          case rest =>
           obtain ⟨rfl,rfl⟩:=hcut;have bP:Hid (∀ M2:List au,M2.Perm (L2++R2)→M2.Pairwise (TB c au.ix)→(M1++M2).Perm (L++R)∧(M1++M2).Pairwise (TB c au.ix)):=fun M2 hp hs2=>by
            rw [aeQ.out.2];exact Xg (ix:=au.ix) Hc.out zV.out HRs.out QD.out (fun x y hx hy=>by have:=XU.out.1 x y hx hy;omega) XU.out.2 yw.out zG.out hp hs2
           cases B3 with
           | false =>
            have HS2:Hid ((L2++R2).Pairwise (TB c au.ix)):=by
             obtain ⟨l1,l2,l3,l4,l5,l6,l7,l8,l9,l10,I7⟩:=Fq.out;have h1:=HB3.out;rw [Bool.and_eq_false_iff,decide_eq_false_iff_not,decide_eq_false_iff_not] at h1;show List.Pairwise _ _;rcases h1 with h1 | h1
             ·have:L2=[]:=List.length_eq_zero_iff.1 (by omega)
              rw [this,Y4];exact (List.pairwise_append.1 HRs.out).2.1
             ·have:R2=[]:=List.length_eq_zero_iff.1 (by omega)
              rw [this,ZH];exact (List.pairwise_append.1 zV.out).2.1
            have yj:=Z9 S2;clear S2;go_wp2_with fail
            go_end0;obtain ⟨q1,q2⟩:=bP.out (L2++R2) (.refl _) HS2.out;refine ⟨rfl,M1++(L2++R2),q1,q2,?_⟩;rw [show P++(M1++(L2++R2))++Z=P++M1++(L2++(R2++Z)) by simp];exact yj.out
           | true =>
            have oh:Hid (Calls Tryz.prog 206 #[.slice (some ⟨g,0,none⟩) n cap,.int .i64 mid,.int .i64 E,.int .i64 b,.func (.func f) #[] caps] w5 (C9 c (P++M1) (L2++R2) Z w0 cs B g n cap)):=by
             obtain ⟨l1,l2,l3,l4,l5,l6,l7,l8,l9,l10,I7⟩:=Fq.out;have h1:=HB3.out;rw [ZQ,decide_eq_true_eq,decide_eq_true_eq] at h1;have hm1:=yw.out.length_eq;rw [Z4] at hm1;refine IH.out w5 (P++M1) L2 R2 Z mid E b (by omega) (by omega) (by omega) ?_ (by simp only [Z4];omega) (List.pairwise_append.1 zV.out).2.1 (List.pairwise_append.1 HRs.out).2.1 QD.out.parts.2 (by rw [Z4];omega) (by omega) (by omega);rw [show P++M1++L2++R2++Z=P++M1++(L2++(R2++Z)) by simp];exact S2
            clear S2;go_wp2_with fail
            refine (oh.out).mono ?_;rintro e w4 ⟨rfl,M2,hp2,hs2,S3⟩;have gV:=Z9 (bP.out M2 hp2 hs2);have yj:=Z9 S3;clear hp2 hs2 S3;go_wp2_with fail
            go_end0;refine ⟨rfl,M1++M2,gV.out.1,gV.out.2,?_⟩;rw [show P++(M1++M2)++Z=P++M1++M2++Z by simp];exact yj.out
theorem aeV {c:au→au→Int}(hc:fC c)(f:Nat)(caps:Array Value)(hf:CY f caps c){w0:World}{cs:List Chunk}{B g n cap:Nat}(hl:n≤1000000):∀ (N:Nat) (w:World) (P L R Z:List au) (a m b:Nat),L.length + R.length≤N→0 < L.length→0 < R.length→Mem w0 w (.own aY B 48 (.slice (some ⟨g,0,none⟩) n cap) (P++L++R++Z)::cs)→n=(P++L++R++Z).length→L.Pairwise (TB c au.ix)→R.Pairwise (TB c au.ix)→qO au.ix L R→a=P.length→m=a + L.length→b=m + R.length →
  Calls Tryz.prog 206 #[.slice (some ⟨g,0,none⟩) n cap,.int .i64 a,.int .i64 m,.int .i64 b,.func (.func f) #[] caps] w (C9 c P (L++R) Z w0 cs B g n cap):=by
 intro N;show QB c f caps w0 cs B g n cap N;induction N with
 | zero=>intro w P L R Z a m b h0 h1;exact absurd h1 (by omega)
 | succ N ih=>exact aeL hc f caps hf hl N ih
end Go.Proofs.YtmkkppknaikjjaaGreatDoor
