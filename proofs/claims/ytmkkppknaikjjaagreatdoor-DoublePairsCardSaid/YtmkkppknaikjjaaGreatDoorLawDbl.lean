/- The law DoublePairs walked: it returns true, and nothing that was there has turned. -/
import Derived.Test.YtmkkppknaikjjaaGreatDoorPack0
set_option maxHeartbeats 8000000
set_option maxRecDepth 100000
open Go.Lib renaming hid→Z9
open List renaming getElem?_eq_getElem→Z8
open Nat renaming le_refl→Z5, zero_le→ZN, le_trans→ZE
open Go.RowKit.Below renaming refl→ZX
open Int renaming eq_ofNat_of_zero_le→Zi
namespace Go.Proofs.YtmkkppknaikjjaaGreatDoor
open Go Go.RowKit
theorem Vx {r:aP}{ts:List ak}(h:kL r ts=0):BN ts∧BO ts∧r.aX.length≤30∧∀ at',Lm (kM r) (mM r) ts at' :=
 ⟨adv (BP h).2,adw (BP h).2,(Vy (BP h).1).2,fun at'=>Vz (BP h).2 at'⟩
theorem adx (N:Nat→Prop)(A A2:Option Addr)(xs:List au)(c c2:Nat)(w:World)(h1:Sl aY N w A xs)(h2:Sl aY N w A2 xs)(hl:xs.length≤1000000000) :
  Calls Tryz.prog 14 #[.slice A xs.length c,.slice A2 xs.length c2] w fun e w'=>e=.returned (.bool true)∧Below w.heap.size w w':=by
 have H1:=Z9 h1;have H2:=Z9 h2;clear h1 h2;go_enter Tryz.func14,Tryz.ntmps14
 go_wp2_with fail
 go_loopw [13] (fun i wr=>∃ j:Nat,j≤xs.length∧i=.int .i64 j∧Below w.heap.size w wr) (fun i _=>xs.length - (intOf i).toNat)
 case atStart=>exact ⟨0,ZN _,rfl,ZX _ _⟩
 case round =>
  obtain ⟨j,hj,rfl,hb⟩:=hrel;by_cases hlt:j < xs.length
  ·obtain ⟨e,hf⟩:∃ e,xs[j]? =some e:=⟨_,Z8 hlt⟩;obtain ⟨b1,o1,rfl,_,c0,c1,c2,c3,c4⟩:=(H1.out.aK hb).db j e hf;obtain ⟨b2,o2,rfl,_,d0,d1,d2,d3,d4⟩:=(H2.out.aK hb).db j e hf;clear hf;go_wp2_with fail
   go_quiet (fail)
   go_wp2_with fail
   go_roundw
   case rel=>exact ⟨j + 1,by omega,by go_num,hb.trans (below_drewN _ _ _)⟩
   case measure=>simp [intOf];omega
  ·go_wp2_with fail
   go_ret;exact ⟨rfl,hb⟩
theorem ady {sv:ByteArray→Tc→List Tc→Vt}{r:aP}{ts:List ak}{ms:List cu}{least F:Int}{zs:List au}(h:wE sv r ts ms least F zs)(hts:ts.length≤8):zs.length≤1000:=by
 rcases h with ⟨_,_,rfl⟩ | ⟨_,cc,_,⟨_,rfl,_⟩ | ⟨_,K,_,hz⟩⟩
 ·simp
 ·simp
 ·have h1:=hz.1.length_eq;have h2:=Lp (K:=K) (ms:=ms) (least:=least) (fG (heads cc ts.length).length (heads cc ts.length).length ((heads cc ts.length).length + 1));have h3:=EO cc ts.length;have h4:=VA (n:=(heads cc ts.length).length) (by omega);omega
theorem adi (v:Value)(w:World)(hv:IntsIn v w)(hT:Tabs w)(hM:gG w)(hN:Names w)(hP:Pool w) :
  Calls Tryz.prog 3 #[v] w fun e w'=>e=.returned (.bool true)∧Below w.heap.size w w':=by
 obtain ⟨va,vn,vc,rfl⟩:∃ a n c,v=.slice a n c:=by
  rcases hv with ⟨a,c,rfl⟩ | ⟨k,off,len,cap,rfl,_⟩
  ·exact ⟨_,_,_,rfl⟩
  ·exact ⟨_,_,_,rfl⟩
 have g0:=G.start (bQ.start hv);clear hv;have S:=St.start g0.s;have Ph:1≠w.heap.size:=Nat.ne_of_lt hP.lt;have G6:0≠w.heap.size:=Nat.ne_of_lt hN.lt;have hb0:Below w.heap.size w (w.alloc (.cells #[.slice va vn vc,.int .i64 0] 25)):=(ZX _ _).alloc (Z5 _) _;have Hb0:=Z9 hb0;have xP:Hid (∀ w',Below w.heap.size w w'→Tabs w'∧gG w'):=fun w' h=>⟨Utf8Tabs_below hT h,hM.below h⟩;have HP:=Z9 (hP.keep (b:=w.heap.size) ((SK.refl _ w).alloc (.cells #[.slice va vn vc,.int .i64 0] 25)) Ph);have HN:=Z9 (hN.keep (b:=w.heap.size) ((SK.refl _ w).alloc (.cells #[.slice va vn vc,.int .i64 0] 25)) G6);have hw0:w.heap.size≤(w.alloc (.cells #[.slice va vn vc,.int .i64 0] 25)).heap.size:=by simp
 clear hP hM hN hT hb0;go_enter Tryz.func3,Tryz.ntmps3
 go_wp2_with fail
 refine (range_any w.heap.size _ _ _ _ S.g.s (by omega) (by omega) (by omega) (by omega)).mono ?_;rintro e w1 ⟨many,adz,adA,rfl,jO,og⟩;replace S:=S.step jO og;clear jO og;obtain ⟨n,rfl⟩:=Zi (show 0≤many by omega);go_wp2_with fail
 refine (adB w.heap.size _ n w.heap.size _ S.g.s (by omega) (by omega) (HN.out.keep S.g.k G6) G6 (HP.out.keep S.g.k Ph) Ph (Z5 _) (ZE hw0 S.g.size) (fun w' h=>xP.out w' ((Hb0.out.trans (S.g.k.below (Z5 _) hw0)).trans h))).mono ?_;rintro e w2 ⟨r,K,ck,W,cw,Sv,cs,A,c,ts,rfl,hr,ht,htl,T⟩;obtain ⟨M,VB⟩:∃ M,0 + 1 + 40000=M:=⟨_,rfl⟩;have S3:=S.join T;rw [VB] at S3;have VD:Hid (M≤100000):=by show M≤100000;omega
 obtain ⟨Y,hY⟩:∃ Y,Y=w2.heap.size:=⟨_,rfl⟩;have S6:St w.heap.size M _ (w2.alloc (.cells (aN r K ck W cw Sv cs) 29)) [.sl ay K r.kinds,.sl aO W r.weak,.sl iQ Sv r.aX,.sl fU A ts,.loc Y (aN r K ck W cw Sv cs) 29]:=S3.newAt (aN r K ck W cw Sv cs) 29 Y hY;have Hr:=Z9 hr;have Ht:=Z9 ht;have nD:Hid (ts.length≤8):=by show _≤_;omega
 clear S S3 T VB adz adA hr ht htl;obtain ⟨F0,Pj⟩:∃ F,Hid (kL r ts=F):=⟨_,Z9 rfl⟩;rw [Pj.out];go_upto_region 3 with fail
 rw [← hY];clear hY;generalize w2.alloc (.cells (aN r K ck W cw Sv cs) 29)=w3 at *;have VE:=Z9 (adC w.heap.size M w3 S6.g.s (by have:=VD.out;omega) (HN.out.keep S6.g.k G6) G6);go_wp2_with fail
 refine (VE.out).mono ?_;rintro e w4 ⟨v1,ms,rfl,ho1,hml,hms,g1⟩;obtain ⟨Am,cm,rfl,hS0⟩:=ho1.VF (fun k hk h=>by unfold Lt at h;omega);have hbw3:w.heap.size < w3.heap.size:=by have:=S6.g.size;rw [World.size_alloc] at this;omega
 have hS1:Sl lK (Off w.heap.size) w4 Am ms:=hS0.mono (fun k _ e=>by unfold Off at e;unfold Lt;omega);have S7:=S6.step g1.k g1.s;clear VE S6 ho1 HN HP hS0 hbw3;go_wp2_with fail
 refine (VG w.heap.size _ 8 [0,1,5,-3,10,100001,-100001,-100000] (cs:=#[.int .i64 0,.int .i64 1,.int .i64 5,.int .i64 (-3),.int .i64 10,.int .i64 100001,.int .i64 (-100001),.int .i64 (-100000)]) S7.g.s rfl rfl (by decide) (by decide) (by have:=VD.out;omega)).mono ?_;rintro e w5 ⟨least,hle,rfl,hk5,hs5⟩;have S8:=S7.step hk5 hs5;have hS2:=hS1.keep hk5.n;have VH:=Z9 hms;clear S7 hS1 hk5 hs5 hle hms g1;go_upto_region 4 with fail
 have Hb5:Hid (Below w.heap.size w w5):=Hb0.out.trans (S8.g.k.below (Z5 _) hw0);have hS:=(S8.slc 3 rfl).mono (M:=fun _=>False) (fun _ _ h=>h.elim);have hR:kN (fun _=>False) w5 r K W Sv:=⟨(S8.slc 0 rfl).mono (fun _ _ h=>h.elim),(S8.slc 1 rfl).mono (fun _ _ h=>h.elim),(S8.slc 2 rfl).mono (fun _ _ h=>h.elim)⟩;have Lr:Sl lK (fun _=>False) w5 Am ms:=hS2.mono (fun _ _ h=>h.elim);have Pm:=Z9 (S8.lv 4 rfl);have G7:Hid (∀ w',Below w5.heap.size w5 w'→Tabs w'∧gG w'):=fun w' h=>xP.out w' (Hb5.out.trans (h.mono Hb5.out.size));have Hlen:Hid (ts.length≤8):=nD.out;have Pn:Hid (∀ m∈ms,m.name.size≤1000000000):=fun m hm=>by have:=VH.out m hm;omega
 have kP:=Z9 (adD r K W Sv A ck cw cs c ts ms Am cm least w5 hR hS Hr.out Ht.out (G7.out w5 (ZX _ _)).1 (G7.out w5 (ZX _ _)).2 (fun h=>(Vx h).2.1) Hlen.out Lr Pn.out (by omega));have ji:=Z9 (fun w' (h:Below w5.heap.size w5 w')=>adE (fun _=>False) Am ms cm w' (Lr.aK h) Pn.out (by omega));have Hc3:=Z9 (fun w' (h:Below w5.heap.size w5 w') (ho:lM r ts) (hu:BN ts) (hq:BO ts) (hsl:r.aX.length≤30) (htf:iy ts=0) (hmf:lN ms=0)=>adF r K W Sv A ck cw cs c ts ms Am cm least w' (hR.aK h) (hS.aK h) ho hu hq hsl Hr.out.ss Hlen.out htf (Lr.aK h) hmf (G7.out w' h).1);have VI:=Z9 (fun w' (h:Below w5.heap.size w5 w')=>adG w' (G7.out w' h).1);have Hkl:Hid (r.kinds.length≤1000000):=Hr.out.kl;clear hS hR Lr S8 xP G7 Hr Ht Hb0 hw0 hS2 Pn VH hml;obtain ⟨F1,qc⟩:∃ F,Hid (lN ms=F):=⟨_,Z9 rfl⟩;rw [qc.out] at ji;have y0:=Pm.out.all;go_wp2_with fail
 refine (kP.out).mono ?_;rintro e w6 ⟨A7,c7,l,F,rfl,hD,M6⟩;have HD:=Z9 hD;have Hl6:=Z9 ((M6.slc 0 rfl).mono (M:=fun _=>False) (fun _ _ h=>h.elim));have hb6:=M6.b;clear hD kP M6 y0;obtain ⟨E,HE⟩:∃ E,Hid (lQ [F0,F1]=E):=⟨_,Z9 rfl⟩;go_wp2_with fail
 refine (ji.out _ hb6).mono ?_;rintro e w8 ⟨rfl,hb8⟩;have Po:=hb6.trans (hb8.mono hb6.size);obtain ⟨U,hU⟩:∃ U,U=w8.heap.size:=⟨_,rfl⟩;have Hw:Hid (Calls Tryz.prog 10 #[.slice (some ⟨U,0,none⟩) 2 2] (w8.alloc (.cells #[.int .i64 F0,.int .i64 F1] 31)) fun e w'=>e=.returned (.int .i64 E)∧(w8.alloc (.cells #[.int .i64 F0,.int .i64 F1] 31))=w'):=by
  show Calls _ _ _ _ _;rw [← HE.out];exact G8 U [F0,F1] _ (LV.new w8 U #[.int .i64 F0,.int .i64 F1] 31 hU) (by simp)
 have BQ:=Po.alloc Po.size (.cells #[.int .i64 F0,.int .i64 F1] 31);have VJ:=hb8.alloc hb8.size (.cells #[.int .i64 F0,.int .i64 F1] 31);clear hb8 Po ji;go_wp2_with fail
 rw [← hU];clear hU;generalize w8.alloc (.cells #[.int .i64 F0,.int .i64 F1] 31)=w9 at *;refine (Hw.out).mono ?_;rintro e _ ⟨rfl,rfl⟩;clear Hw;have hfe:lQ [F0,F1]=if F0=0 then F1 else F0:=by
  unfold lQ;by_cases h:F0=0
  ·rw [if_pos h];simp [h,lQ];exact fun h2=>h2.symm
  ·rw [if_neg h];simp [h]
 have HEq:Hid ((if F0=0 then F1 else F0)=E):=by show _=_;rw [← hfe];exact HE.out
 clear hfe;by_cases hE:E=0
 ·subst hE;obtain ⟨rE,hF1,ha⟩:kL r ts=0∧lN ms=0∧wE (kM r) r ts ms least F l:=by
   have h9:=HEq.out;rw [← Pj.out,← qc.out] at h9;rcases HD.out with ⟨h,_⟩ | ⟨h,h2,_⟩ | h2
   ·rw [if_neg h] at h9;exact absurd h9 h
   ·rw [if_pos h] at h9;exact absurd h9 h2
   ·exact h2
  have hbz:=BP rE;have Ho:Hid (lM r ts):=lM.of hbz.1 Hkl.out hbz.2;have Ls:=Z9 (Vx rE);have Ha:=Z9 ha;have VK:=Z9 (Hc3.out _ BQ Ho.out Ls.out.1 Ls.out.2.1 Ls.out.2.2.1 hbz.2 hF1);have y0:=(LV.dQ Pm.out BQ Pm.out.lt).all;clear rE hF1 ha hbz HD HEq HE;go_wp2_with fail
  refine (VK.out).mono ?_;rintro e w10 ⟨A3,c3,l3,F3,rfl,VL,M8⟩;obtain ⟨hF,hl⟩:=Ha.out.uniq VL (fun at'=>Ls.out.2.2.2 at');subst hF hl;have VN:=BQ.trans (M8.b.mono BQ.size);have VO:Below w6.heap.size w6 w10:=VJ.trans (M8.b.mono VJ.size);have Heq:=Z9 (adx (fun _=>False) A7 A3 l c7 c3 w10 (Hl6.out.aK VO) ((M8.slc 0 rfl).mono (M:=fun _=>False) (fun _ _ h=>h.elim)) (ZE (ady Ha.out Hlen.out) (by decide)));clear y0 VL M8 VO VK;go_wp2_with fail
  refine (Heq.out).mono ?_;rintro e w12 ⟨rfl,VP⟩;have Pq:=VN.trans (VP.mono VN.size);clear VP Heq;go_wp2_with fail
  refine (VI.out _ Pq).mono ?_;rintro e Pv ⟨rfl,Px⟩;have hb5:=Pq.trans (Px.mono Pq.size);go_wp2_with fail
  go_ret;exact ⟨rfl,Hb5.out.trans (hb5.mono Hb5.out.size)⟩
 ·obtain ⟨rfl,rfl⟩:F=E∧l=[]:=by
   have h9:=HEq.out;rw [← Pj.out,← qc.out] at h9;rcases HD.out with ⟨h,h1,h2⟩ | ⟨h,h3,h1,h2⟩ | ⟨h,h1,_⟩
   ·rw [if_neg h] at h9;exact ⟨h1.trans h9,h2⟩
   ·rw [if_pos h] at h9;exact ⟨h1.trans h9,h2⟩
   ·rw [if_pos h,h1] at h9;exact absurd h9.symm hE
  have h1:(F != 0)=true:=by simpa using hE
  clear hE HD HE HEq;go_wp2_with fail
  refine (VI.out _ BQ).mono ?_;rintro e Pv ⟨rfl,Px⟩;have hb5:=BQ.trans (Px.mono BQ.size);go_wp2_with fail
  go_ret;exact ⟨rfl,Hb5.out.trans (hb5.mono Hb5.out.size)⟩
end Go.Proofs.YtmkkppknaikjjaaGreatDoor
