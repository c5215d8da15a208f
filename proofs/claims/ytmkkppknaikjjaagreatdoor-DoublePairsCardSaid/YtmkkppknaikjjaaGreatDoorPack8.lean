/- Several texts in one: Stab5, Doubles. -/
import Derived.Test.YtmkkppknaikjjaaGreatDoorPack7
/- What slices.SortStableFunc makes of less than 40 pairs. -/
set_option maxHeartbeats 16000000
set_option maxRecDepth 100000
open Go.Lib renaming hid→Z9
open List renaming getElem?_eq_getElem→Z8, mem_of_getElem?→Z7, length_append→Z4, length_map→ZW, length_cons→ZV, getElem?_map→ZT, map_append→ZP, length_nil→ZO, append_nil→ZH, getElem?_append_right→ZF, mem_cons_of_mem→Zq, length→Zf, nil_append→Y4, mem_cons_self→Y2
open Nat renaming le_refl→Z5, zero_le→ZN
open Go.RowKit.Below renaming refl→ZX
namespace Go.Proofs.YtmkkppknaikjjaaGreatDoor
section
open Go Go.RowKit
def XV (c:au→au→Int)(L:List au)(w0:World)(cs:List Chunk)(B g n cap:Nat)(e:Ending)(w':World):Prop:=e=.returned (.tuple #[])∧∃ M:List au,M.Perm L∧M.Pairwise (TB c au.ix)∧Mem w0 w' (.own aY B 48 (.slice (some ⟨g,0,none⟩) n cap) M::cs)
theorem aeW {c:au→au→Int}(hc:fC c)(f:Nat)(caps:Array Value)(hf:CY f caps c){w0 w:World}{cs:List Chunk}{B g n cap:Nat}(xs:List au)(S:Mem w0 w (.own aY B 48 (.slice (some ⟨g,0,none⟩) n cap) xs::cs))(hn:n=xs.length)(lU:n < 40)(hix:xs.Pairwise (fun a b=>a.ix < b.ix)) :
  Calls Tryz.prog 125 #[.slice (some ⟨g,0,none⟩) n cap,.int .i64 n,.func (.func f) #[] caps] w (XV c xs w0 cs B g n cap):=by
 have Hn:=Z9 hn;have jP:=Z9 hix;by_cases h20:n < 20
 ·have Hi:=Z9 (Qw hc f caps hf [] xs [] (by rw [Y4,ZH];exact S) (by rw [Y4,ZH];exact hn) (by omega) hix 0 n rfl (by rw [ZO];omega));rw [show ((0:Nat):Int)=0 from rfl] at Hi;clear hn hix S;have e1:(decide ((20:Int)≤(n:Int)))=false:=by rw [decide_eq_false_iff_not];omega
  have e2:(decide ((20:Int) < (n:Int)))=false:=by rw [decide_eq_false_iff_not];omega
  go_enter Tryz.func125,Tryz.ntmps125
  go_wp2_with fail
  go_loopw [7,8] (fun s7 s8 wr=>s7=.int .i64 0∧s8=.int .i64 20∧w=wr) (fun _ _ _=>0)
  case atStart=>exact ⟨rfl,rfl,rfl⟩
  case round =>
   obtain ⟨rfl,rfl,rfl⟩:=hrel;go_wp2_with fail
   refine (Hi.out).mono ?_;rintro e w2 ⟨rfl,M,hp,hs,S⟩;have HM:Hid (M.Perm xs∧M.Pairwise (TB c au.ix)∧Mem w0 w2 (.own aY B 48 (.slice (some ⟨g,0,none⟩) n cap) M::cs)):=⟨hp,hs,by rw [Y4,ZH] at S;exact S⟩;clear hp hs S;go_wp2_with fail
   go_loopw [6,7,8,9] (fun s6 _ _ _ wr=>s6=.int .i64 20∧w2=wr) (fun _ _ _ _ _=>0)
   case atStart=>exact ⟨rfl,rfl⟩
   case round =>
    obtain ⟨rfl,rfl⟩:=hrel;go_wp2_with fail
    go_end0;exact ⟨rfl,M,HM.out⟩
 ·obtain ⟨A,D,Fv,hA⟩:=IC xs 20 (by omega);have hDl:A.length + D.length=n:=by rw [hn,Fv,Z4]
  have MN:A.Pairwise (fun a b=>a.ix < b.ix)∧D.Pairwise (fun a b=>a.ix < b.ix)∧qO au.ix A D:=by rw [Fv] at hix;exact List.pairwise_append.1 hix
  have MO:=Z9 (Qw hc f caps hf [] A D (by rw [Y4,← Fv];exact S) (by rw [Y4,← Fv];exact hn) (by omega) MN.1 0 20 rfl (by rw [ZO];omega));have XW:=Z9 (fun (M1:List au) (w':World) (hM:M1.length=20) (S':Mem w0 w' (.own aY B 48 (.slice (some ⟨g,0,none⟩) n cap) (M1++D)::cs))=>Qw hc f caps hf M1 D [] (by rw [ZH];exact S') (by rw [ZH,Z4];omega) (by omega) MN.2.1 20 n hM.symm (by omega));have Hm:=Z9 (fun (M1 M2:List au) (w':World) (h1:M1.Perm A) (h2:M2.Perm D) (s1:M1.Pairwise (TB c au.ix)) (s2:M2.Pairwise (TB c au.ix)) (h0:0 < D.length) (S':Mem w0 w' (.own aY B 48 (.slice (some ⟨g,0,none⟩) n cap) (M1++M2)::cs))=>aeV hc f caps hf (n:=n) (cap:=cap) (by omega) n w' [] M1 M2 [] 0 20 n (by rw [h1.length_eq,h2.length_eq];omega) (by rw [h1.length_eq];omega) (by rw [h2.length_eq];exact h0) (by rw [Y4,ZH];exact S') (by rw [Y4,ZH,Z4,h1.length_eq,h2.length_eq];omega) s1 s2 (fun x hx y hy=>MN.2.2 x (h1.mem_iff.1 hx) y (h2.mem_iff.1 hy)) rfl (by rw [h1.length_eq];omega) (by rw [h2.length_eq];omega));rw [show ((0:Nat):Int)=0 from rfl,show ((20:Nat):Int)=20 from rfl] at MO Hm;rw [show ((20:Nat):Int)=20 from rfl] at XW;have HAD:Hid (xs=A++D∧A.length=20∧A.length + D.length=n):=⟨Fv,hA,hDl⟩;have e1:(decide ((20:Int)≤(n:Int)))=true:=by rw [decide_eq_true_eq];omega
  have e2:(decide ((40:Int)≤(n:Int)))=false:=by rw [decide_eq_false_iff_not];omega
  have e3:(decide ((40:Int) < (n:Int)))=false:=by rw [decide_eq_false_iff_not];omega
  clear hn hix S Fv hA hDl MN;go_enter Tryz.func125,Tryz.ntmps125
  go_wp2_with fail
  go_loopw [7,8] (fun s7 s8 wr=>(s7=.int .i64 0∧s8=.int .i64 20∧w=wr)∨(s7=.int .i64 20∧s8=.int .i64 40∧∃ M1:List au,Hid (M1.Perm A)∧Hid (M1.Pairwise (TB c au.ix))∧Mem w0 wr (.own aY B 48 (.slice (some ⟨g,0,none⟩) n cap) (M1++D)::cs))) (fun _ s8 _=>40 - (intOf s8).toNat)
  case atStart=>exact .inl ⟨rfl,rfl,rfl⟩
  case round =>
   rcases hrel with ⟨rfl,rfl,rfl⟩ | ⟨rfl,rfl,M1,yw,zG,S⟩
   ·go_wp2_with fail
    refine (MO.out).mono ?_;rintro e w2 ⟨rfl,M,hp,hs,S⟩;have HM:Hid (M.Perm A∧M.Pairwise (TB c au.ix)∧Mem w0 w2 (.own aY B 48 (.slice (some ⟨g,0,none⟩) n cap) (M++D)::cs)):=⟨hp,hs,S⟩;clear hp hs S;go_wp2_with fail
    go_roundw
    case rel=>exact .inr ⟨rfl,by first | rfl | go_num,M,HM.out⟩
    case measure=>simp [intOf]
   ·have Hj:=Z9 (XW.out M1 wr (by rw [yw.out.length_eq];exact HAD.out.2.1) S);clear S;go_wp2_with fail
    refine (Hj.out).mono ?_;rintro e w2 ⟨rfl,M2,hp,hs,S⟩;have HM:Hid (M2.Perm D∧M2.Pairwise (TB c au.ix)∧Mem w0 w2 (.own aY B 48 (.slice (some ⟨g,0,none⟩) n cap) (M1++M2)::cs)):=⟨hp,hs,by rw [ZH] at S;exact S⟩;clear hp hs S Hj;by_cases h0:D.length=0
    ·have QE:n=20:=by have:=HAD.out.2;omega
     have e4:(decide ((20:Int) < (n:Int)))=false:=by rw [QE];decide
     have alC:=Z9 QE;have gV:Hid (M1.Perm xs∧M1.Pairwise (TB c au.ix)∧Mem w0 w2 (.own aY B 48 (.slice (some ⟨g,0,none⟩) n cap) M1::cs)):=by
      have hD:D=[]:=List.length_eq_zero_iff.1 h0;have h1:=HM.out;rw [hD] at h1;have hM2:M2=[]:=h1.1.eq_nil;rw [hM2,ZH] at h1;refine ⟨?_,zG.out,h1.2.2⟩;rw [HAD.out.1,hD,ZH];exact yw.out
     clear QE h0;go_wp2_with fail
     go_loopw [6,7,8,9] (fun s6 _ _ _ wr=>s6=.int .i64 20∧w2=wr) (fun _ _ _ _ _=>0)
     case atStart=>exact ⟨rfl,rfl⟩
     case round =>
      obtain ⟨rfl,rfl⟩:=hrel;go_wp2_with fail
      go_end0;exact ⟨rfl,M1,gV.out⟩
    ·have e4:(decide ((20:Int) < (n:Int)))=true:=by rw [decide_eq_true_eq];have:=HAD.out.2;omega
     have Dh:=Z9 (Hm.out M1 M2 w2 yw.out HM.out.1 zG.out HM.out.2.1 (by omega) HM.out.2.2);have HP:Hid ((M1++M2).Perm xs):=by
      show List.Perm _ _;rw [HAD.out.1];exact yw.out.append HM.out.1
     clear h0;go_wp2_with fail
     go_loopw [6,7,8,9] (fun s6 _ _ _ wr=>(s6=.int .i64 20∧w2=wr)∨(s6=.int .i64 40∧∃ M:List au,Hid (M.Perm xs)∧Hid (M.Pairwise (TB c au.ix))∧Mem w0 wr (.own aY B 48 (.slice (some ⟨g,0,none⟩) n cap) M::cs))) (fun s6 _ _ _ _=>40 - (intOf s6).toNat)
     case atStart=>exact .inl ⟨rfl,rfl⟩
     case round =>
      rcases hrel with ⟨rfl,rfl⟩ | ⟨rfl,M,Hp,Hs,S⟩
      ·go_wp2_with fail
       go_loopw [7,8] (fun s7 s8 wr=>s7=.int .i64 0∧s8=.int .i64 40∧w2=wr) (fun _ _ _=>0)
       case atStart=>exact ⟨rfl,rfl,rfl⟩
       case round =>
        obtain ⟨rfl,rfl,rfl⟩:=hrel;go_wp2_with fail
        refine (Dh.out).mono ?_;rintro e w3 ⟨rfl,M,hp,hs,S⟩;have XC:Hid (M.Perm xs∧M.Pairwise (TB c au.ix)∧Mem w0 w3 (.own aY B 48 (.slice (some ⟨g,0,none⟩) n cap) M::cs)):=⟨hp.trans HP.out,hs,by rw [Y4,ZH] at S;exact S⟩;clear hp hs S;go_wp2_with fail
        go_roundw
        case rel=>exact .inr ⟨rfl,M,XC.out⟩
        case measure=>simp [intOf]
      ·go_wp2_with fail
       go_end0;exact ⟨rfl,M,Hp.out,Hs.out,S⟩
theorem aeX {c:au→au→Int}(hc:fC c)(f:Nat)(caps:Array Value)(hf:CY f caps c){w0 w:World}{cs:List Chunk}{B g n cap:Nat}(xs:List au)(S:Mem w0 w (.own aY B 48 (.slice (some ⟨g,0,none⟩) n cap) xs::cs))(hn:n=xs.length)(lU:n < 40)(hix:xs.Pairwise (fun a b=>a.ix < b.ix)) :
  Calls Tryz.prog 58 #[.slice (some ⟨g,0,none⟩) n cap,.func (.func f) #[] caps] w (XV c xs w0 cs B g n cap):=by
 have H:=Z9 (aeW hc f caps hf xs S hn lU hix);clear S hn;go_enter Tryz.func58,Tryz.ntmps58
 go_wp2_with fail
 refine (H.out).mono ?_;rintro e w2 ⟨rfl,h⟩;go_wp2_with fail
 go_end0;exact ⟨rfl,h⟩
theorem aeY (x y:au)(w:World):Calls Tryz.prog 59 #[.agg (fJ x),.agg (fJ y)] w fun e w'=>e=.returned (.int .i64 (CV x y))∧Below w.heap.size w w':=by
 obtain ⟨X,hX⟩:∃ X,X=w.heap.size:=⟨_,rfl⟩;have S1:=(Mem.start w).newAt (fJ x) 48 X hX;have S:Mem w _ [.loc X (fJ x) 48,.loc (X + 1) (fJ y) 48]:=S1.newAt (fJ y) 48 (X + 1) (by rw [hX,World.size_alloc]);clear S1;obtain ⟨R,HR⟩:∃ R,Hid (CV x y=R):=⟨_,Z9 rfl⟩;rw [HR.out];go_enter Tryz.func59,Tryz.ntmps59
 go_upto_region 1 with fail
 rw [← hX];clear hX;generalize (w.alloc (.cells (fJ x) 48)).alloc (.cells (fJ y) 48)=w2 at *;have l0:=(S.lv 0 rfl).all;have l1:=(S.lv 1 rfl).all;go_wp2_with fail
 refine (Tryz.cmp_Compare_int y.pts x.pts w2).mono ?_;rintro e _ ⟨rfl,rfl⟩;go_wp2_with fail
 go_ret;exact ⟨aH HR.out,S.b⟩
end
section
open Go Go.RowKit
def Fz (sv:ByteArray→Tc→List Tc→Vt)(r:aP)(ts:List ak)(ms:List cu)(least F:Int)(zs:List au):Prop :=
 (kL r ts≠0∧F=kL r ts∧zs=[])∨(kL r ts=0∧lN ms≠0∧F=lN ms∧zs=[])∨(kL r ts=0∧lN ms=0∧wE sv r ts ms least F zs)
def VQ (D:Int→List au→Prop)(w:World)(e:Ending)(w':World):Prop:=∃ (A:Option Addr) (c:Nat) (zs:List au) (F:Int),e=.returned (.tuple #[.slice A zs.length c,.int .i64 F])∧D F zs∧Mem w w' [.sl aY A zs]
theorem aeZ {r:aP}{l:List ak}{c:Nat→Nat}{ms:List MQ}(h:QF r l c ms){j:Nat}{q:MQ}(hq:ms[j]? =some q):∃ hd,(heads c l.length)[j]? =some hd∧q.key=keyAt r l hd∧q.at'=partAt c l.length hd:=by
 have h1:(ms.map MQ.raw)[j]? =some q.raw:=by rw [ZT,hq];rfl
 rw [h] at h1;unfold lV at h1;rw [List.map_map,ZT] at h1;cases e:(heads c l.length)[j]? with
 | none=>rw [e] at h1;cases h1
 | some hd =>
  rw [e] at h1;have h2:=Option.some.inj h1;exact ⟨hd,rfl,(congrArg (fun t=>t.1) h2).symm,(congrArg (fun t=>t.2.2.2) h2).symm⟩
theorem XY {r:aP}{l:List ak}{c:Nat→Nat}{ms:List MQ}(h:QF r l c ms):ms.length=(heads c l.length).length:=by
 have:=congrArg Zf h
 rw [ZW,ZW,lV,ZW] at this;exact this
theorem XZ (a b:List aQ)(ha:pJ a)(hb:pJ b):∀ ms:List cu,(∀ m∈ms,-1000≤m.pts∧m.pts≤1000)→-(1000 * (ms.length:Int))≤fV a b ms∧fV a b ms≤1000 * (ms.length:Int)
 | [],_=>by simp [fV]
 | m::r,h=>by
  have ih:=XZ a b ha hb r (fun x hx=>h x (Zq _ hx));have h1:=h m (Y2 ..);have h2:kU m b a=0∨kU m b a=m.pts:=by
   by_cases e1:∃ f∈a,f.name=m.name
   ·obtain ⟨f,hf,e⟩:=e1;rw [Qn m b f e a ha hf];by_cases e2:∃ g∈b,g.name=m.name
    ·obtain ⟨g,hg,e3⟩:=e2;rw [Qm m f g e e3 b hb hg];split
     ·exact .inr rfl
     ·exact .inl rfl
    ·exact .inl (L9 m f b (fun g hg e3=>e2 ⟨g,hg,e3⟩))
   ·exact .inl (Mc m b a (fun f hf e=>e1 ⟨f,hf,e⟩))
  rw [fV,ZV];push_cast
  rcases h2 with h2 | h2 <;> rw [h2] <;> constructor <;> omega
theorem ae0 (fv:Value)(w:World):Calls Tryz.prog 205 #[.slice none 0 0,.int .i64 0,.int .i64 0,fv] w fun e w'=>e=.returned (.tuple #[])∧w=w':=by
 go_enter Tryz.func205,Tryz.ntmps205
 go_wp2_with fail
 go_loopw [8,9] (fun i _ wr=>i=.int .i64 1∧w=wr) (fun _ _ _=>0)
 case atStart=>exact ⟨rfl,rfl⟩
 case round =>
  obtain ⟨rfl,rfl⟩:=hrel;go_wp2_with fail
  go_end0;exact ⟨rfl,rfl⟩
theorem ae1 (fv:Value)(w:World):Calls Tryz.prog 125 #[.slice none 0 0,.int .i64 0,fv] w fun e w'=>e=.returned (.tuple #[])∧w=w':=by
 have Hi:=Z9 (ae0 fv w);go_enter Tryz.func125,Tryz.ntmps125
 go_wp2_with fail
 go_loopw [7,8] (fun s7 s8 wr=>s7=.int .i64 0∧s8=.int .i64 20∧w=wr) (fun _ _ _=>0)
 case atStart=>exact ⟨rfl,rfl,rfl⟩
 case round =>
  obtain ⟨rfl,rfl,rfl⟩:=hrel;go_wp2_with fail
  refine (Hi.out).mono ?_;rintro e w2 ⟨rfl,rfl⟩;go_wp2_with fail
  go_loopw [6,7,8,9] (fun s6 _ _ _ wr=>s6=.int .i64 20∧w=wr) (fun _ _ _ _ _=>0)
  case atStart=>exact ⟨rfl,rfl⟩
  case round =>
   obtain ⟨rfl,rfl⟩:=hrel;go_wp2_with fail
   go_end0;exact ⟨rfl,rfl⟩
theorem ae2 (fv:Value)(w:World):Calls Tryz.prog 58 #[.slice none 0 0,fv] w fun e w'=>e=.returned (.tuple #[])∧w=w':=by
 have Hi:=Z9 (ae1 fv w);go_enter Tryz.func58,Tryz.ntmps58
 go_wp2_with fail
 refine (Hi.out).mono ?_;rintro e w2 ⟨rfl,rfl⟩;go_wp2_with fail
 go_end0;exact ⟨rfl,rfl⟩
theorem ae3 {w0 w:World}{cs:List Chunk}{B:Nat}{v:Value}(xs:List au)(S:Mem w0 w (.own aY B 48 v xs::cs))(lU:xs.length < 40)(hix:xs.Pairwise (fun a b=>a.ix < b.ix)) :
  Calls Tryz.prog 58 #[v,.func (.func 59) #[] #[]] w fun e w'=>e=.returned (.tuple #[])∧∃ M,jk xs M∧Mem w0 w' (.own aY B 48 v M::cs):=by
 rcases (S.ow 0 rfl).shape2 with ⟨rfl,rfl⟩ | ⟨g,cap,rfl,_⟩
 ·refine (ae2 _ w).mono ?_;rintro e w' ⟨rfl,rfl⟩;exact ⟨rfl,[],jk.nil,S⟩
 ·refine (aeX Md 59 #[] ⟨enters_of Tryz.func59 (by kernel_rfl) rfl,aeY⟩ xs S rfl lU hix).mono ?_;rintro e w' ⟨rfl,M,h1,h2,S2⟩;exact ⟨rfl,M,⟨h1,h2⟩,S2⟩
theorem VA {n:Nat}(h:n≤8):(fG n n (n + 1)).length≤28:=by
 obtain rfl | rfl | rfl | rfl | rfl | rfl | rfl | rfl | rfl:n=0∨n=1∨n=2∨n=3∨n=4∨n=5∨n=6∨n=7∨n=8:=by omega
 all_goals decide
theorem adD (r:aP)(K W Sv A:Option Addr)(ck cw cs c:Nat)(ts:List ak)(ml:List cu)(Am:Option Addr)(cm:Nat)(least:Int)(w:World)(hR:kN (fun _=>False) w r K W Sv)(hT:Sl fU (fun _=>False) w A ts)(hr:zY r)(ht:zZ ts)(hU:Tabs w)(hM:gG w)(hq:kL r ts=0→BO ts)(hts:ts.length≤8)(hS:Sl lK (fun _=>False) w Am ml)(hsm:∀ f∈ml,f.name.size≤1000000000)(hml:ml.length≤1000000000) :
  Calls Tryz.prog 9 #[.agg (aN r K ck W cw Sv cs),.slice A ts.length c,.slice Am ml.length cm,.int .i64 least] w (VQ (Fz (kM r) r ts ml least) w):=by
 obtain ⟨Y,hY⟩:∃ Y,Y=w.heap.size:=⟨_,rfl⟩;have T:=(Mem.start w).newAt (aN r K ck W cw Sv cs) 29 Y hY;have QG:=Z9 (fun w' (h:Below w.heap.size w w')=>ae4 (fun _=>False) r K W Sv A ck cw cs c ts w' (hR.aK h) (hT.aK h) hr ht (Utf8Tabs_below hU h) (hM.below h));have fO:=Z9 (fun w' (h:Below w.heap.size w w')=>aeo (fun _=>False) Am ml cm w' (hS.aK h) hsm hml);have HR:=Z9 hR;have HT:=Z9 hT;have HS:=Z9 hS;have Hr:=Z9 hr;have HU:=Z9 hU;have Hq:=Z9 hq;have BU:=Z9 hts;obtain ⟨F,HF⟩:∃ F,Hid (kL r ts=F):=⟨_,Z9 rfl⟩;obtain ⟨F2,HF2⟩:∃ F2,Hid (lN ml=F2):=⟨_,Z9 rfl⟩;rw [HF.out] at QG;rw [HF2.out] at fO;clear hR hT hr ht hU hM hq hts hS hsm hml;go_enter Tryz.func9,Tryz.ntmps9
 go_upto_region 1 with fail
 rw [← hY];clear hY;generalize w.alloc (.cells (aN r K ck W cw Sv cs) 29)=w1 at *;replace T:Mem w w1 [.loc Y (aN r K ck W cw Sv cs) 29]:=T;have y0:=(T.lv 0 rfl).all;go_wp2_with fail
 refine (QG.out w1 T.b).mono ?_;rintro e w2 ⟨rfl,hl2⟩;have T2:=T.below hl2;clear hl2 y0 T QG;by_cases hF:F=0
 ·subst hF;go_wp2_with fail
  refine (fO.out w2 T2.b).mono ?_;rintro e w3 ⟨rfl,hl3⟩;have T3:=T2.below hl3;clear hl3 T2 fO;by_cases hF2:F2=0
  ·subst hF2;go_wp2_with fail
   refine (nN least (-100000) 100000 w3).mono ?_;rintro e _ ⟨rfl,rfl⟩;by_cases hle:-100000≤least∧least≤100000
   ·rw [decide_eq_true hle];have nG:=Z9 hle;have Ho:Hid (lM r ts):=lM.both HF.out Hr.out;have Hn:=Z9 (ae5 (fun _=>False) r K W Sv A ck cw cs c ts w3 (HT.out.aK T3.b) Ho.out.tl (fun t h=>(Ho.out.up t h).nodup) Ho.out.il);have y0:=(T3.lv 0 rfl).all;clear hle;go_wp2_with fail
    refine (Hn.out).mono ?_;rintro e w4 ⟨G,X,qs,rfl,T4,hH⟩;have QH:=Z9 (fun w' (h:Below w4.heap.size w4 w')=>(ae6 T4.b (HR.out.aK T3.b) (HT.out.aK T3.b) T4 hH (ck:=ck) (cw:=cw) (cs:=cs) (c:=c)).aK h);have Hm:=Z9 (ae7 (fun _=>False) G X r K W Sv A ck cw cs c ts qs w4 (QH.out w4 (ZX _ _)) Ho.out);have hb4:Below w.heap.size w w4:=T3.b.trans (T4.b.mono T3.b.size);clear Hn hH T3 T4 y0;go_wp2_with fail
    refine (Hm.out).mono ?_;rintro e w5 ⟨Aq,cq,cc,ms,rfl,hp,hm,T5⟩;have QI:ms.length≤8:=by
     rw [XY hm];have h1:=EO cc ts.length;have h2:=BU.out;omega
    have I8:=Z9 (fun w' (h:Below w5.heap.size w5 w')=>(⟨((T5.slc 0 rfl).mono (M:=fun _=>False) (fun _ _ h=>h.elim)).aK h,fun q hq=>((show Sl ay _ w5 q.C (iL q.at') from ((T5.ok _ (Z7 (show ([Chunk.sl ig Aq ms,.I9 ms]:List Chunk)[1]? =some (.I9 ms) from rfl)):X0 _ w5 ms) q hq).2.2).mono (M:=fun _=>False) (fun _ _ h=>h.elim)).aK h⟩:Sl ig (fun _=>False) w' Aq ms∧∀ q∈ms,Sl ay (fun _=>False) w' q.C (iL q.at')));have Hp:=Z9 hp;have Dh:=Z9 hm;have wV:=T5.b;have Hb5:Hid (Below w.heap.size w w5):=hb4.trans (wV.mono hb4.size);have ae8:=Z9 (fun w' (h:Below w5.heap.size w5 w')=>QH.out w' (wV.trans (h.mono wV.size)));have e60:(decide ((60:Int) < (ms.length:Int)))=false:=by rw [decide_eq_false_iff_not];omega
    clear Hm hp hm T5 QH hb4 wV;have X5:=Z9 (fun (j:Nat) (q:MQ) (hq:ms[j]? =some q)=>aeZ Dh.out hq);go_wp2_with fail
    clear e60;go_loopw [14,46] (fun s14 QJ wr=>∃ (k:Nat) (R:List (ah×List aQ)) (rq:List RQ),k≤ms.length∧QJ=.int .i64 k∧Hid (oZ (kM r) r ts cc k R)∧Hid (rq.map RQ.l=R.map Prod.snd)∧Hid (rq.length=k)∧Mem w5 wr [.own iE w5.heap.size 56 s14 rq,.iR rq]) (fun _ QJ _=>ms.length - (intOf QJ).toNat)
    case atStart=>exact ⟨0,[],[],ZN _,rfl,oZ.start _ _ _ _,rfl,rfl,((Mem.start w5).nil iE w5.heap.size 56).VT⟩
    case round =>
     obtain ⟨k,R,rq,hk,rfl,HK,BX,Hrl,M⟩:=hrel;by_cases hlt:k < ms.length
     ·obtain ⟨q,hqk⟩:∃ q,ms[k]? =some q:=⟨_,Z8 hlt⟩;obtain ⟨hd,hhd,hkey,hat⟩:=X5.out k q hqk;obtain ⟨b1,o1,rfl,hb1,d0,d1,d2,d3,d4⟩:=(I8.out wr M.b).1.mq k q hqk;have HC:=Z9 (fun w' (h:Below w5.heap.size w5 w')=>(I8.out w' h).2 q (Z7 hqk));have hbz:=BP HF.out;obtain ⟨hsv,hsl⟩:=Vy hbz.1;have hQ:=Hq.out HF.out;obtain ⟨AT,X6⟩:∃ AT,q.at'=AT:=⟨_,rfl⟩;rw [X6] at hat HC d4;have hlA:∀ i∈AT,i < ts.length:=fun i hi=>by
       rw [hat] at hi;unfold partAt at hi;exact List.mem_range.1 (List.mem_filter.1 hi).1
      have hal:AT.length≤ts.length:=by rw [hat];exact BZ cc ts.length hd
      have htn:=BU.out;have hcl:(fH ts AT).length≤100000:=by
       have h1:=Lu hQ.fl AT;omega
      have oh:=Z9 (fun w' (h:Below w5.heap.size w5 w')=>ae9 G X r K W Sv A ck cw cs c ts qs q.key.k q.key.t q.A q.B q.C q.aC.length q.a q.ids.length q.b q.c AT w' (ae8.out w' h) hlA (by omega) (by omega) hQ.fl (HC.out w' h) hsv hsl (fun s hs=>Hr.out.ss s hs) (hQ.VW AT) (by omega));have o9:Hid (∀ l,nH (kM r) (fH ts AT) l→l.length≤30→oZ (kM r) r ts cc (k + 1) (R++[(q.key,l)])):=fun l h1 h2=>by
       rw [hkey];exact HK.out.snoc hhd (by rw [← hat];exact h1) h2
      have LC:Hid (∀ l,nH (kM r) (fH ts AT) l→30 < l.length→Fz (kM r) r ts ml least 2 []):=fun l h1 h2=>.inr (.inr ⟨HF.out,HF2.out,.inr ⟨nG.out,cc,Hp.out,.inl ⟨rfl,rfl,k,hd,l,hhd,by rw [← hat];exact h1,h2⟩⟩⟩);have uT:Hid ((fH ts AT).length≤100000):=hcl;clear hqk hhd hkey hat hbz hsv hsl hQ hlA hal htn hcl;obtain ⟨Z,hZ⟩:∃ Z,Z=wr.heap.size:=⟨_,rfl⟩;have M1:Mem w5 (wr.alloc (.cells #[.int .i64 q.key.k,.string q.key.t,.slice q.A q.aC.length q.a,.slice q.B q.ids.length q.b,.slice q.C AT.length q.c] 107)) [.own iE w5.heap.size 56 u14 rq,.iR rq,.loc Z #[.int .i64 q.key.k,.string q.key.t,.slice q.A q.aC.length q.a,.slice q.B q.ids.length q.b,.slice q.C AT.length q.c] 107]:=M.newAt #[.int .i64 q.key.k,.string q.key.t,.slice q.A q.aC.length q.a,.slice q.B q.ids.length q.b,.slice q.C AT.length q.c] 107 Z hZ;clear M X6;go_upto_region 17 with fail
      rw [← hZ];clear hZ d0 d1 d2 d3 d4 hb1;generalize wr.alloc (.cells #[.int .i64 q.key.k,.string q.key.t,.slice q.A q.aC.length q.a,.slice q.B q.ids.length q.b,.slice q.C AT.length q.c] 107)=w6 at *;have z0:=(M1.lv 2 rfl).all;have rF:=Z9 (oh.out w6 M1.b);go_wp2_with fail
      refine (rF.out).mono ?_;rintro e w7 ⟨A7,c7,l,rfl,hI,hll,T7⟩;have M2:Mem w5 w7 [.own iE w5.heap.size 56 u14 rq,.iR rq,.sl bK A7 l]:=(M1.join T7).del 2;have HI:=Z9 hI;have hsz:=M2.b.size;have hrl:=Hrl.out;have X7:l.length≤100000:=by have:=uT.out;omega
      clear z0 rF oh T7 M1 hI hll;go_wp2_with (at_builtin;refine M2.app 0 rfl VX rfl _ _ rfl ⟨A7,c7,l⟩ 1 rfl rfl rfl (VY ⟨A7,c7,l⟩) hsz (by omega) (by decide) ?_;intro v8 w8 M3)
      have FB:(rq++[(⟨A7,c7,l⟩:RQ)]).length=k + 1:=by rw [Z4,hrl];rfl
      obtain ⟨g,cap,e8,hcap⟩:=(M3.ow 0 rfl).form (by rw [FB];omega);rw [FB] at e8 hcap;subst e8;have cz:=(M3.ow 0 rfl).aeC FB.symm k ⟨A7,c7,l⟩ (by rw [ZF (by omega),hrl,Nat.sub_self];rfl);have hk1:((k + 1:Nat):Int) - 1=(k:Int):=by omega
      have hkk:k < k + 1:=by omega
      have M4:Mem w5 w8 [.own iE w5.heap.size 56 (.slice (some ⟨g,0,none⟩) (k + 1) cap) (rq++[⟨A7,c7,l⟩]),.iR rq,.sl bK A7 l]:=M3;clear M2 M3 hsz;by_cases hlong:30 < l.length
      ·have Hd:=Z9 (LC.out l HI.out hlong);have qg:Hid (Mem w w8 [.sl aY none []]):=((Mem.start w).below (Hb5.out.trans (M4.b.mono Hb5.out.size))).call (ZX _ _) _ Sl.nil (fun k e=>by cases e);clear M4 hrl FB X7;have e30:(decide ((30:Int) < (l.length:Int)))=true:=by rw [decide_eq_true_eq];omega
       clear hlong;go_wp2_with fail
       exact bodyPost_ret (wF rfl rfl rfl) rfl ⟨none,0,[],2,rfl,Hd.out,qg.out⟩
      ·have M5:Mem w5 w8 [.own iE w5.heap.size 56 (.slice (some ⟨g,0,none⟩) (k + 1) cap) (rq++[⟨A7,c7,l⟩]),.iR (rq++[⟨A7,c7,l⟩])]:=(M4.VZ 1 rfl ⟨A7,c7,l⟩ (M4.slc 2 rfl)).del 2;have HN:=Z9 (o9.out l HI.out (by omega));have Pz:Hid ((rq++[(⟨A7,c7,l⟩:RQ)]).map RQ.l=(R++[(q.key,l)]).map Prod.snd):=by show _=_;rw [ZP,ZP,BX.out];rfl
       have PD:=Z9 FB;have e30:(decide ((30:Int) < (l.length:Int)))=false:=by rw [decide_eq_false_iff_not];omega
       clear M4 hlong hrl FB X7;go_wp2_with fail
       go_roundw
       case rel=>exact ⟨k + 1,R++[(q.key,l)],_,by omega,by go_num,HN.out,Pz,PD,M5⟩
       case measure=>simp [intOf];omega
     ·obtain rfl:k=ms.length:=by omega
      clear hlt;obtain ⟨Ar,cr,er,M1⟩:=M.cO 0 rfl;subst er;have hrl:=Hrl.out;rw [hrl];clear M;have hbz:=BP HF.out;have PE:=Z9 (Xu (r:=r) hbz.2);have dR:Hid (∀ (i:Nat) (q:MQ) (ri:RQ),ms[i]? =some q→rq[i]? =some ri→wG R i=q.key∧wH R i=ri.l∧uw ri.l):=fun i q ri hq kD=>by
       obtain ⟨hd,h1,h2,h3⟩:=X5.out i q hq;obtain ⟨l,h4,h5,h6⟩:=HK.out.2 i hd (bM hq) h1;have h7:(rq.map RQ.l)[i]? =(R.map Prod.snd)[i]? :=by rw [BX.out]
       rw [ZT,ZT,kD,h4] at h7;have h8:ri.l=l:=Option.some.inj h7;refine ⟨?_,?_,?_⟩
       ·show (R.getD i _).1=_;rw [List.getD_eq_getElem?_getD,h4,h2];rfl
       ·show (R.getD i _).2=_;rw [List.getD_eq_getElem?_getD,h4,h8];rfl
       ·rw [h8];exact V3 PE.out h5 h6
      have ER:=Z9 (V4 HF2.out);have afa:Hid (∀ a b:List aQ,uw a→uw b→-100000≤fV a b ml∧fV a b ml≤100000):=fun a b ha hb=>by
       have h1:=XZ a b ha.2.2 hb.2.2 ml (fun m hm=>⟨(ER.out.2 m hm).2.1,(ER.out.2 m hm).2.2⟩);have h2:=ER.out.1;constructor <;> omega
      have HSm:=Z9 (fun w' (h:Below w5.heap.size w5 w')=>(HS.out.aK (Hb5.out.trans (h.mono Hb5.out.size))));have HUm:=Z9 (fun w' (h:Below w5.heap.size w5 w')=>(Utf8Tabs_below HU.out (Hb5.out.trans (h.mono Hb5.out.size))));obtain ⟨n,hn⟩:∃ n,n=ms.length:=⟨_,rfl⟩;have wI:=Z9 hn;rw [← hn] at HK QI hrl ⊢;have M2:Mem w5 wr [.own aY w5.heap.size 48 (.slice none 0 0) (gI R ml least (fG n 0 (0 + 1))),.sl iE Ar rq,.iR rq]:=by
       rw [V5];exact ((M1.nil aY w5.heap.size 48).front)
      have hcnt:Hid (∀ i k,i < n→k≤n→(gI R ml least (fG n i k)).length≤100):=fun i k hi hk=>by
       have h1:=Lp (K:=R) (ms:=ml) (least:=least) (fG n i k);have h2:=V6 n i (by omega) k hk;have h3:(i + 1) * n≤8 * 8:=Nat.mul_le_mul (by omega) QI;omega
      clear hn M1 hbz BX;go_wp2_with fail
      go_loopw [17,67] (fun Di QK wr=>∃ i:Nat,i≤n∧QK=.int .i64 i∧Mem w5 wr [.own aY w5.heap.size 48 Di (gI R ml least (fG n i (i + 1))),.sl iE Ar rq,.iR rq]) (fun _ QK _=>n - (intOf QK).toNat)
      case atStart=>exact ⟨0,ZN _,rfl,M2⟩
      case round =>
       clear M2;obtain ⟨i,hi,rfl,M⟩:=hrel;by_cases hlt:i < n
       ·obtain ⟨q,hqi⟩:∃ q,ms[i]? =some q:=⟨_,Z8 (by have:=wI.out;omega)⟩;obtain ⟨ri,kD⟩:∃ ri,rq[i]? =some ri:=⟨_,Z8 (by omega)⟩;obtain ⟨hk1,hk2,hk3⟩:=dR.out i q ri hqi kD;obtain ⟨b1,o1,rfl,hb1,d0,d1,d2,d3,d4⟩:=(I8.out wr M.b).1.mq i q hqi;have jE:=Z9 kD;have Hk:Hid (wG R i=q.key∧wH R i=ri.l∧uw ri.l):=⟨hk1,hk2,hk3⟩;clear hqi kD hk1 hk2 hk3;obtain ⟨Z,hZ⟩:∃ Z,Z=wr.heap.size:=⟨_,rfl⟩;have M1:Mem w5 (wr.alloc (.cells #[.int .i64 q.key.k,.string q.key.t,.slice q.A q.aC.length q.a,.slice q.B q.ids.length q.b,.slice q.C q.at'.length q.c] 107)) [.own aY w5.heap.size 48 u17 (gI R ml least (fG n i (i + 1))),.sl iE Ar rq,.iR rq,.loc Z #[.int .i64 q.key.k,.string q.key.t,.slice q.A q.aC.length q.a,.slice q.B q.ids.length q.b,.slice q.C q.at'.length q.c] 107]:=M.newAt #[.int .i64 q.key.k,.string q.key.t,.slice q.A q.aC.length q.a,.slice q.B q.ids.length q.b,.slice q.C q.at'.length q.c] 107 Z hZ;clear M;go_upto_region 25 with fail
        rw [← hZ];clear hZ d0 d1 d2 d3 d4 hb1;generalize wr.alloc (.cells #[.int .i64 q.key.k,.string q.key.t,.slice q.A q.aC.length q.a,.slice q.B q.ids.length q.b,.slice q.C q.at'.length q.c] 107)=w6 at *;go_wp2_with fail
        go_loopw [17,20] (fun Di s20 wr=>∃ k:Nat,i + 1≤k∧k≤n∧s20=.int .i64 k∧Mem w5 wr [.own aY w5.heap.size 48 Di (gI R ml least (fG n i k)),.sl iE Ar rq,.iR rq,.loc Z #[.int .i64 q.key.k,.string q.key.t,.slice q.A q.aC.length q.a,.slice q.B q.ids.length q.b,.slice q.C q.at'.length q.c] 107]) (fun _ s20 _=>n - (intOf s20).toNat)
        case atStart=>exact ⟨i + 1,Z5 _,by omega,by go_num,M1⟩
        case round =>
         clear M1;obtain ⟨k,hik,hk,rfl,M⟩:=hrel;by_cases hlt2:k < n
         ·obtain ⟨p,hpk⟩:∃ p,ms[k]? =some p:=⟨_,Z8 (by have:=wI.out;omega)⟩;obtain ⟨rk,hrk⟩:∃ rk,rq[k]? =some rk:=⟨_,Z8 (by omega)⟩;obtain ⟨hp1,hp2,hp3⟩:=dR.out k p rk hpk hrk;obtain ⟨b2,o2,eb,hb2,e0,e1,_,_,_⟩:=(I8.out wr M.b).1.mq k p hpk;cases eb;have hsl:=M.slc 1 rfl;obtain ⟨br,or',PK,hbr,r0⟩:=hsl.rq i ri jE.out;subst PK;obtain ⟨br2,or2,PL,PN,r1⟩:=hsl.rq k rk hrk;cases PL;have LD:Hid (Sl bK (fun _=>False) wr ri.A ri.l):=(M.rd 2 rfl ri (Z7 jE.out)).mono (fun _ _ h=>h.elim);have LG:Hid (Sl bK (fun _=>False) wr rk.A rk.l):=(M.rd 2 rfl rk (Z7 hrk)).mono (fun _ _ h=>h.elim);have hP:=afa.out ri.l rk.l Hk.out.2.2 hp3;have Cb:=Z9 (fun w' (h:Below wr.heap.size wr w')=>aev (fun _=>False) Am ri.A rk.A ml ri.l rk.l cm ri.c rk.c w' (HSm.out w' (M.b.trans (h.mono M.b.size))) (LD.out.aK h) (LG.out.aK h) ER.out Hk.out.2.2 hp3 (HUm.out w' (M.b.trans (h.mono M.b.size))));obtain ⟨PT,Cc⟩:∃ PT,fV ri.l rk.l ml=PT:=⟨_,rfl⟩;rw [Cc] at hP Cb;have rG:Hid (zq R ml (i,k)=PT):=by
           show fV (wH R i) (wH R k) ml=PT;rw [Hk.out.2.1,hp2,Cc]
          have H7:Hid (wG R i=q.key∧wG R k=p.key):=⟨Hk.out.1,hp1⟩;have hc1:=hcnt.out i k hlt (by omega);have uy:=Z9 (fun w' (h:Below wr.heap.size wr w')=>eX (P:=Tryz.prog) (t:=56) (w:=w') (by kernel_rfl) ((h.cell (p:=⟨br,or' + i,none⟩) hbr).trans r0));have tu:=Z9 (fun w' (h:Below wr.heap.size wr w')=>eX (P:=Tryz.prog) (t:=56) (w:=w') (by kernel_rfl) ((h.cell (p:=⟨br,or' + k,none⟩) hbr).trans r1));have Hl2:Hid (∀ w',Below w5.heap.size w5 w'→(Instr.loadAt 46 (.pointer (some ⟨b1,o1 + k * 5,none⟩))).run Tryz.prog w'=.ok (.agg #[.int .i64 p.key.k,.string p.key.t]) w'):=fun w' h=>by
           obtain ⟨b3,o3,e3,_,f0,f1,_⟩:=(I8.out w' h).1.mq k p hpk;cases e3;exact gU f0 f1
          have o9:Hid (gI R ml least (fG n i (k + 1))=if least≤PT then gI R ml least (fG n i k)++[⟨q.key,p.key,PT,(gI R ml least (fG n i k)).length⟩] else gI R ml least (fG n i k)):=by
           show _=_;rw [PS n i k (by omega),Qp];unfold rQ H8;rw [rG.out,H7.out.1,H7.out.2]
          have HM:=Z9 M;have hkn:k < rq.length:=by omega
          have hin:i < rq.length:=by omega
          have adN:k < ms.length:=by have:=wI.out;omega
          clear M hpk hrk hp1 hp2 hp3 hsl r0 r1 e0 e1 hbr PN hb2 Cc;go_upto_region 28 with fail
          go_wp2_with fail
          refine dF (fun w'=>Below wr.heap.size wr w') [(true,0),(true,1),(true,2),(true,3),(true,4),(true,5),(true,6),(true,7),(true,8),(false,9),(true,10)] (by kernel_rfl) (by kernel_rfl) (fun w' hd=>hd.below _) (fun KK aF wd aW=>?_);have hC:=aW.below wr.heap.size;clear aW;refine aA ?_;refine jq (.slice ri.A ri.l.length ri.c) rfl rfl rfl rfl (fun w' h=>uy.out w' h) ?_;refine aA ?_;refine jq (.slice rk.A rk.l.length rk.c) rfl rfl rfl rfl (fun w' h=>tu.out w' h) ?_;refine aA ?_;refine aV rfl (fun K9 hK9=>?_) hC;have Ho:=Z9 (Cb.out wd hC);go_wp2_with fail
          refine (Ho.out).mono ?_;rintro e w3 ⟨rfl,hl3⟩;have dB:=hC.trans (hl3.mono hC.size);clear Ho hl3;go_wp2_with fail
          refine ⟨dB,?_⟩;refine aA ?_;refine dG ?_;simp only [Exit.then];refine aF _ _ ?_;have M4:=HM.out.below dB;clear hC dB HM Cb uy tu;obtain ⟨Z0,HZ0⟩:∃ Z0,Hid (gI R ml least (fG n i k)=Z0):=⟨_,Z9 rfl⟩;rw [HZ0.out] at o9 hc1 M4;replace M4:Mem w5 w3 [.own aY w5.heap.size 48 u17 Z0,.sl iE (some ⟨br,or',none⟩) rq,.iR rq,.loc Z #[.int .i64 q.key.k,.string q.key.t,.slice q.A q.aC.length q.a,.slice q.B q.ids.length q.b,.slice q.C q.at'.length q.c] 107]:=M4;have H9:i + 1≤k + 1:=by omega
          by_cases hge:least≤PT
          ·have iT:Hid (gI R ml least (fG n i (k + 1))=Z0++[⟨q.key,p.key,PT,Z0.length⟩]):=by show _=_;rw [o9.out,if_pos hge]
           have e9:(decide (least≤PT))=true:=decide_eq_true hge;clear hge o9;go_upto_region 30 with fail
           refine wJ [] (fun w'=>Below w5.heap.size w5 w'∧LV w' Z #[.int .i64 q.key.k,.string q.key.t,.slice q.A q.aC.length q.a,.slice q.B q.ids.length q.b,.slice q.C q.at'.length q.c] 107) (.p 0 (.p 1 (.p 2 (.q 3 (.p 4 (.p 5 (.p 6 (.p 7 (.p 8 (.q 9 (.p 10 (.p 11 (.e 12 (.e 13 (.p 14 .z))))))))))))))) (by kernel_rfl) (by kernel_rfl) (fun w' hd=>⟨(M4.below (hd.below _)).b,(M4.below (hd.below _)).lv 3 rfl⟩) (fun KK aF wd hd=>?_);have M5:=M4.below (hd.below _);clear hd M4;refine dN ?_;refine jc (.agg #[.int .i64 q.key.k,.string q.key.t]) rfl rfl rfl rfl (fun w' h=>gU (h.2.cell 0 _ rfl) (h.2.cell 1 _ rfl)) ?_;refine dN ?_;refine jc (.agg #[.int .i64 p.key.k,.string p.key.t]) rfl rfl rfl rfl (fun w' h=>Hl2.out w' h.1) ?_;refine dN ?_;refine gX rfl rfl (fun K9 hK9=>?_);have hsz:w5.heap.size≤wd.heap.size:=M5.b.size;have oq:Below w5.heap.size w5 (wd.alloc (.cells #[.int .i64 q.key.k,.string q.key.t,.int .i64 p.key.k,.string p.key.t,.int .i64 PT] 48))∧LV (wd.alloc (.cells #[.int .i64 q.key.k,.string q.key.t,.int .i64 p.key.k,.string p.key.t,.int .i64 PT] 48)) Z #[.int .i64 q.key.k,.string q.key.t,.slice q.A q.aC.length q.a,.slice q.B q.ids.length q.b,.slice q.C q.at'.length q.c] 107:=⟨(M5.alloc _).b,(M5.alloc _).lv 3 rfl⟩;go_wp2_with fail
           refine ⟨oq,?_⟩;clear oq;refine gX rfl rfl (fun K9 hK9=>?_);refine M5.app 0 rfl rV rfl _ _ rfl ⟨q.key,p.key,PT,Z0.length⟩ 1 rfl rfl rfl (CX ⟨q.key,p.key,PT,Z0.length⟩) hsz (by omega) (by decide) ?_;intro v5 w12 M6;have lS:Below w5.heap.size w5 w12∧LV w12 Z #[.int .i64 q.key.k,.string q.key.t,.slice q.A q.aC.length q.a,.slice q.B q.ids.length q.b,.slice q.C q.at'.length q.c] 107:=⟨M6.b,M6.lv 3 rfl⟩;clear M5;go_wp2_with fail
           refine ⟨lS,?_⟩;clear lS;refine dN ?_;refine rJ ?_;simp only [Exit.then];refine aF _ _ ?_;clear aF KK;have HM6:=Z9 M6;clear M6 hsz;go_wp2_with fail
           go_roundw
           case rel =>
            refine ⟨k + 1,H9,by omega,by go_num,?_⟩;rw [iT.out];exact HM6.out
           case measure=>simp [intOf];omega
          ·have iT:Hid (gI R ml least (fG n i (k + 1))=Z0):=by show _=_;rw [o9.out,if_neg hge]
           have e9:(decide (least≤PT))=false:=decide_eq_false hge;clear hge o9;go_wp2_with fail
           go_roundw
           case rel =>
            refine ⟨k + 1,H9,by omega,by go_num,?_⟩;rw [iT.out];exact M4
           case measure=>simp [intOf];omega
         ·obtain rfl:n=k:=by omega
          have X8:=Wn n i;rw [← X8] at M;have M3:=M.del 3;clear M X8;go_wp2_with fail
          go_roundw
          case rel=>exact ⟨i + 1,by omega,by go_num,M3⟩
          case measure=>simp [intOf];omega
       ·obtain rfl:n=i:=by omega
        have Hso:=Z9 (ae3 _ M (by
         have h1:=Lp (K:=R) (ms:=ml) (least:=least) (fG n n (n + 1));have h2:=VA QI;omega) (Xp _).1)
        clear M hlt;go_wp2_with fail
        refine (Hso.out).mono ?_;rintro e w6 ⟨rfl,zs,hz,M2⟩;obtain ⟨Az,cz,ez,M3⟩:=M2.cO 0 rfl;subst ez;have gV:Hid (Fz (kM r) r ts ml least 0 zs):=by
         refine .inr (.inr ⟨HF.out,HF2.out,.inr ⟨nG.out,cc,Hp.out,.inr ⟨rfl,R,?_⟩⟩⟩);rw [← XY Dh.out,← wI.out];exact ⟨HK.out,hz⟩
        have qg:Hid (Mem w w6 [.sl aY Az zs]):=(((Mem.start w).below Hb5.out).join ((M3.del 2).del 1));clear hz M2 M3;go_wp2_with fail
        exact bodyPost_ret (wF rfl rfl rfl) rfl ⟨Az,cz,zs,0,rfl,gV.out,qg.out⟩
   ·rw [decide_eq_false hle];have gV:Hid (Fz (kM r) r ts ml least 1 []):=.inr (.inr ⟨HF.out,HF2.out,.inl ⟨hle,rfl,rfl⟩⟩);have qg:Hid (Mem w w3 [.sl aY none []]):=(T3.del 0).call (ZX _ _) _ Sl.nil (fun k e=>by cases e);clear hle;go_wp2_with fail
    exact bodyPost_ret (wF rfl rfl rfl) rfl ⟨none,0,[],1,rfl,gV.out,qg.out⟩
  ·have h1:(F2 != 0)=true:=by simpa using hF2
   have gV:Hid (Fz (kM r) r ts ml least F2 []):=.inr (.inl ⟨HF.out,by rw [HF2.out];exact hF2,HF2.out.symm,rfl⟩);have qg:Hid (Mem w w3 [.sl aY none []]):=(T3.del 0).call (ZX _ _) _ Sl.nil (fun k e=>by cases e);clear hF2;go_wp2_with fail
   exact bodyPost_ret (wF rfl rfl rfl) rfl ⟨none,0,[],F2,rfl,gV.out,qg.out⟩
 ·have h1:(F != 0)=true:=by simpa using hF
  have gV:Hid (Fz (kM r) r ts ml least F []):=.inl ⟨by rw [HF.out];exact hF,HF.out.symm,rfl⟩;have qg:Hid (Mem w w2 [.sl aY none []]):=(T2.del 0).call (ZX _ _) _ Sl.nil (fun k e=>by cases e);clear hF;go_wp2_with fail
  exact bodyPost_ret (wF rfl rfl rfl) rfl ⟨none,0,[],F,rfl,gV.out,qg.out⟩
end
end Go.Proofs.YtmkkppknaikjjaaGreatDoor
