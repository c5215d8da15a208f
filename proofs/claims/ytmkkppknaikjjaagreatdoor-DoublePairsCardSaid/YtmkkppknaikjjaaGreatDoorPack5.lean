/- Several texts in one: Stab1, Stab2. -/
import Derived.Test.YtmkkppknaikjjaaGreatDoorPack4
/- Pairs in a slice of the call's own: stretches change places, and short stretches are sorted in place. -/
set_option maxHeartbeats 8000000
set_option maxRecDepth 100000
open Go.Lib renaming hid→Z9
open List renaming getElem?_eq_getElem→Z8, length_append→Z4, length_cons→ZV, length_set→ZU, length_take→ZR, length_nil→ZO, append_assoc→ZM, length_drop→ZK, drop_eq_nil_of_le→ZJ, append_nil→ZH, getElem?_append_right→ZF, drop_eq_getElem_cons→Zz, length→Zf, nil_append→Y4, mem_cons_self→Y2, pairwise_singleton→YS, take_append_drop→YK
open Nat renaming le_refl→Z5, zero_le→ZN
open Go.IntKind renaming wrap_i64→Zc
namespace Go.Proofs.YtmkkppknaikjjaaGreatDoor
section
open Go Go.RowKit
def CY (f:Nat)(caps:Array Value)(c:au→au→Int):Prop:=(∀ args w,(callFunc f args).run Tryz.prog w=.ok (.enter f args) w)∧∀ (x y:au) (w:World),Calls Tryz.prog f (#[.agg (fJ x),.agg (fJ y)]++caps) w fun e w'=>e=.returned (.int .i64 (c x y))∧Below w.heap.size w w'
theorem Mem.MG {w0 w:World}{cs:List Chunk}{B E g n cap:Nat}{ys:List au}(S:Mem w0 w (.own aY B E (.slice (some ⟨g,0,none⟩) n cap) ys::cs))(hn:n=ys.length)(p q:Nat)(x y:au)(hx:ys[p]? =some x)(hy:ys[q]? =some y)(hpq:p≠q) :
  Mem w0 ((((((((((w.setCell ⟨g,p * 5,none⟩ (.int .i64 y.a.k)).setCell ⟨g,p * 5 + 1,none⟩ (.string y.a.t)).setCell ⟨g,p * 5 + 2,none⟩ (.int .i64 y.b.k)).setCell ⟨g,p * 5 + 3,none⟩ (.string y.b.t)).setCell ⟨g,p * 5 + 4,none⟩ (.int .i64 y.pts)).setCell ⟨g,q * 5,none⟩ (.int .i64 x.a.k)).setCell ⟨g,q * 5 + 1,none⟩ (.string x.a.t)).setCell ⟨g,q * 5 + 2,none⟩ (.int .i64 x.b.k)).setCell ⟨g,q * 5 + 3,none⟩ (.string x.b.t)).setCell ⟨g,q * 5 + 4,none⟩ (.int .i64 x.pts)) (.own aY B E (.slice (some ⟨g,0,none⟩) n cap) ((ys.set p y).set q x)::cs):=by
 have S1:Mem w0 _ (.own aY B E (.slice (some ⟨g,0,none⟩) n cap) (ys.set p y)::cs):=S.Xw 0 rfl hn p x y hx;exact S1.Xw 0 rfl (by rw [ZU];exact hn) q y x (by rw [List.getElem?_set_ne hpq];exact hy)
def aeD (xs:List au)(a b k:Nat)(w0:World)(cs:List Chunk)(B g n cap:Nat)(e:Ending)(w':World):Prop:=e=.returned (.tuple #[])∧∃ ys,oC xs ys a b k∧Mem w0 w' (.own aY B 48 (.slice (some ⟨g,0,none⟩) n cap) ys::cs)
theorem Qu {w0 w:World}{cs:List Chunk}{B g n cap:Nat}{xs:List au}(S:Mem w0 w (.own aY B 48 (.slice (some ⟨g,0,none⟩) n cap) xs::cs))(hn:n=xs.length)(hl:n≤1000000)(a b k:Nat)(hab:a + k≤b)(hbn:b + k≤n)(fv:Value) :
  Calls Tryz.prog 314 #[.slice (some ⟨g,0,none⟩) n cap,.int .i64 a,.int .i64 b,.int .i64 k,fv] w (aeD xs a b k w0 cs B g n cap):=by
 have Hn:=Z9 hn;clear hn;go_enter Tryz.func314,Tryz.ntmps314
 go_wp2_with fail
 go_loopw [10] (fun i wr=>∃ (j:Nat) (ys:List au),j≤k∧i=.int .i64 j∧Hid (oC xs ys a b j)∧Mem w0 wr (.own aY B 48 (.slice (some ⟨g,0,none⟩) n cap) ys::cs)) (fun i _=>k - (intOf i).toNat)
 case atStart=>exact ⟨0,xs,ZN _,rfl,oC.start xs a b,S⟩
 case round =>
  clear S;obtain ⟨j,ys,hj,rfl,Hs,S⟩:=hrel;by_cases hlt:j < k
  ·have hyl:Hid (n=ys.length):=by show _=_;have:=Hn.out;have:=Hs.out.1;omega
   obtain ⟨p,hp⟩:∃ p,p=a + j:=⟨_,rfl⟩;obtain ⟨q,hq⟩:∃ q,q=b + j:=⟨_,rfl⟩;have e1:IntKind.i64.wrap ((a:Int) + (j:Int))=(p:Int):=by rw [Zc];omega
   have e2:IntKind.i64.wrap ((b:Int) + (j:Int))=(q:Int):=by rw [Zc];omega
   have hpn:p < n:=by omega
   have wR:q < n:=by omega
   have hpq:p < q:=by omega
   have Hpq:Hid (p≠q):=by show _≠_;omega
   have HS2:Hid (∀ x y,ys[p]? =some x→ys[q]? =some y→oC xs ((ys.set p y).set q x) a b (j + 1)):=fun x y hx hy=>by
    subst hp hq;exact Hs.out.next hlt hab hx hy
   obtain ⟨x,hx⟩:∃ x,ys[p]? =some x:=⟨_,Z8 (by have:=hyl.out;omega)⟩;obtain ⟨y,hy⟩:∃ y,ys[q]? =some y:=⟨_,Z8 (by have:=hyl.out;omega)⟩;have yj:=Z9 (HS2.out x y hx hy);have Hx:=Z9 hx;have Hy:=Z9 hy;clear hp hq hx hy HS2 Hs;obtain ⟨⟨c0,c1,c2,c3,c4⟩,IQ,cf1,IU,cf3,IV⟩:=(S.ow 0 rfl).uP hyl.out p x Hx.out;obtain ⟨⟨d0,d1,d2,d3,d4⟩,CZ,jy,df2,IW,IX⟩:=(S.ow 0 rfl).uP hyl.out q y Hy.out;have HS:=Z9 S;clear S;go_wp2_with fail
   go_region
   go_wp2_with fail
   go_roundw
   case rel =>
    have S1:=HS.out.MG hyl.out p q x y Hx.out Hy.out Hpq.out;exact ⟨j + 1,(ys.set p y).set q x,by omega,by go_num,yj.out,S1.below ((show je _ _ from rfl).below _)⟩
   case measure=>simp [intOf];omega
  ·obtain rfl:j=k:=by omega
   go_wp2_with fail
   go_end0;exact ⟨rfl,ys,Hs.out,S⟩
def Xx (Z:List au)(w0:World)(cs:List Chunk)(B g n cap:Nat)(e:Ending)(w':World):Prop:=e=.returned (.tuple #[])∧Mem w0 w' (.own aY B 48 (.slice (some ⟨g,0,none⟩) n cap) Z::cs)
theorem aeE {w0 w:World}{cs:List Chunk}{B g n cap:Nat}(P X Y R:List au)(S:Mem w0 w (.own aY B 48 (.slice (some ⟨g,0,none⟩) n cap) (P++X++Y++R)::cs))(hn:n=(P++X++Y++R).length)(hl:n≤1000000)(hX:0 < X.length)(hY:0 < Y.length)(a m b:Nat)(ha:a=P.length)(hm:m=P.length + X.length)(hb:b=P.length + X.length + Y.length)(fv:Value) :
  Calls Tryz.prog 279 #[.slice (some ⟨g,0,none⟩) n cap,.int .i64 a,.int .i64 m,.int .i64 b,fv] w (Xx (P++Y++X++R) w0 cs B g n cap):=by
 have hlen:(P++X++Y++R).length=P.length + X.length + Y.length + R.length:=by simp;omega
 have Hlz:Hid ((P++Y++X++R).length=n):=by show _=_;rw [hn];simp;omega
 obtain ⟨Z,HZ⟩:∃ Z,Hid (P++Y++X++R=Z):=⟨_,Z9 rfl⟩;have hR:Hid (pI Z m X.length Y.length (P++X++Y++R) P.length):=by
  show pI _ _ _ _ _ _;rw [← HZ.out,hm];exact pI.start P X Y R
 rw [HZ.out] at Hlz ⊢;have hbn:b≤n:=by omega
 have ham:m=a + X.length:=by omega
 have hmb:b=m + Y.length:=by omega
 obtain ⟨x0,hx0⟩:∃ x0,x0=X.length:=⟨_,rfl⟩;obtain ⟨y0,hy0⟩:∃ y0,y0=Y.length:=⟨_,rfl⟩;rw [← hx0] at hR hX ham;rw [← hy0] at hR hY hmb;obtain ⟨zs,Xy⟩:∃ zs,Hid (P++X++Y++R=zs):=⟨_,Z9 rfl⟩;rw [Xy.out] at hR S hn;have Hn:=Z9 hn;have e1:IntKind.i64.wrap ((m:Int) - (a:Int))=(x0:Int):=by rw [Zc];omega
 have e2:IntKind.i64.wrap ((b:Int) - (m:Int))=(y0:Int):=by rw [Zc];omega
 have hmn:m≤1000000:=by omega
 have hin:x0 + y0≤1000000:=by omega
 generalize P.length=p0 at *;clear hlen ha hm hb hn hx0 hy0 HZ Xy ham hmb hbn;go_enter Tryz.func279,Tryz.ntmps279
 go_wp2_with fail
 clear e1 e2;go_loopw [10,11] (fun s10 s11 wr=>∃ (i j:Nat) (ys:List au),s10=.int .i64 i∧s11=.int .i64 j∧0 < i∧0 < j∧i + j≤1000000∧Hid (pI Z m i j ys p0)∧Hid (n=ys.length)∧Mem w0 wr (.own aY B 48 (.slice (some ⟨g,0,none⟩) n cap) ys::cs)) (fun s10 s11 _=>(intOf s10).toNat + (intOf s11).toNat)
 case atStart=>exact ⟨x0,y0,zs,rfl,rfl,hX,hY,hin,hR,Hn,S⟩
 case round =>
  clear S hR Hn hX hY hin;obtain ⟨i,j,ys,rfl,rfl,hi,hj,hij,HR,Hn,S⟩:=hrel;by_cases heq:i=j
  ·subst heq;obtain ⟨Q,A,B',R',rfl,hA,hB',hQ,hZ⟩:=HR.out.done;have Fh:=Z9 (Qu S Hn.out hl Q.length m i (by omega) (by have:=Hn.out;simp only [Z4,ZO] at this;omega) fv);have gV:Hid (∀ zs,oC (Q++A++[]++B'++R') zs Q.length m i→zs=Z):=fun zs h=>by
    rw [← hZ];refine oC.done (P:=Q) (A:=A) (Q:=[]) (B:=B') (S:=R') ?_ (by omega);rw [ZO,Nat.add_zero,hA,hQ];exact h
   have e1:IntKind.i64.wrap ((m:Int) - (i:Int))=(Q.length:Int):=by rw [Zc];omega
   clear S Hn hA hB' hQ hZ HR;go_wp2_with fail
   refine (Fh.out).mono ?_;rintro e w2 ⟨rfl,zs,hz,S⟩;obtain rfl:=gV.out zs hz;go_wp2_with fail
   go_end0;exact ⟨rfl,S⟩
  ·have he:((i:Int)==(j:Int))=false:=by simpa using (by omega:(i:Int)≠j)
   rcases Nat.lt_or_gt_of_ne heq with hlt | hlt
   ·obtain ⟨Q,A,B1,B2,R',rfl,hA,hB2,hQ,hB1,hR⟩:=HR.out.less hlt;have HR2:Hid (pI Z m i (j - i) (Q++B2++B1++A++R') p0):=hR;have Fh:=Z9 (Qu S Hn.out hl Q.length (m + (j - i)) i (by omega) (by have:=Hn.out;simp only [Z4] at this;omega) fv);have gV:Hid (∀ zs,oC (Q++A++B1++B2++R') zs Q.length (m + (j - i)) i→zs=Q++B2++B1++A++R'):=fun zs h=>by
     refine oC.done (P:=Q) (A:=A) (Q:=B1) (B:=B2) (S:=R') ?_ (by omega);rw [hA,hB1,hQ];exact h
    have lq:Hid (n=(Q++B2++B1++A++R').length):=by show _=_;have:=Hn.out;simp only [Z4] at this ⊢;omega
    have e1:IntKind.i64.wrap ((m:Int) - (i:Int))=(Q.length:Int):=by rw [Zc];omega
    have e5:((m:Int) + (j:Int) - (i:Int))=((m + (j - i):Nat):Int):=by omega
    rw [← e5] at Fh;clear e5;have e4:((i:Int)==(j:Int))=false:=he;clear S Hn hA hB2 hQ hB1 HR hR he;go_wp2_with fail
    refine (Fh.out).mono ?_;rintro e w2 ⟨rfl,zs,hz,S⟩;obtain rfl:=gV.out zs hz;clear e1 e4 hz;go_wp2_with fail
    go_roundw
    case rel=>exact ⟨i,j - i,_,rfl,by go_num,hi,by omega,by omega,HR2,lq,S⟩
    case measure=>simp [intOf];omega
   ·obtain ⟨Q,A1,A2,B',R',rfl,hA,hB2,hQ,hA2,hR⟩:=HR.out.more hlt;have HR2:Hid (pI Z m (i - j) j (Q++B'++A2++A1++R') p0):=hR;have Fh:=Z9 (Qu S Hn.out hl Q.length m j (by omega) (by have:=Hn.out;simp only [Z4] at this;omega) fv);have gV:Hid (∀ zs,oC (Q++A1++A2++B'++R') zs Q.length m j→zs=Q++B'++A2++A1++R'):=fun zs h=>by
     refine oC.done (P:=Q) (A:=A1) (Q:=A2) (B:=B') (S:=R') ?_ (by omega);rw [hA,hA2,show Q.length + j + (i - j)=m by omega];exact h
    have lq:Hid (n=(Q++B'++A2++A1++R').length):=by show _=_;have:=Hn.out;simp only [Z4] at this ⊢;omega
    have e1:IntKind.i64.wrap ((m:Int) - (i:Int))=(Q.length:Int):=by rw [Zc];omega
    have e4:((i:Int)==(j:Int))=false:=he;clear S Hn hA hB2 hQ hA2 HR hR he;go_wp2_with fail
    refine (Fh.out).mono ?_;rintro e w2 ⟨rfl,zs,hz,S⟩;obtain rfl:=gV.out zs hz;clear e1 e4 hz;go_wp2_with fail
    go_roundw
    case rel=>exact ⟨i - j,j,_,by go_num,rfl,by omega,hj,by omega,HR2,lq,S⟩
    case measure=>simp [intOf];omega
def C9 (c:au→au→Int)(P L R:List au)(w0:World)(cs:List Chunk)(B g n cap:Nat)(e:Ending)(w':World):Prop:=e=.returned (.tuple #[])∧∃ M:List au,M.Perm L∧M.Pairwise (TB c au.ix)∧Mem w0 w' (.own aY B 48 (.slice (some ⟨g,0,none⟩) n cap) (P++M++R)::cs)
theorem Qv {w:World}{N o:Nat}{x:au}(c0:w.cell? ⟨N,o,none⟩=some (.int .i64 x.a.k))(c1:w.cell? ⟨N,o + 1,none⟩=some (.string x.a.t))(c2:w.cell? ⟨N,o + 2,none⟩=some (.int .i64 x.b.k))(c3:w.cell? ⟨N,o + 3,none⟩=some (.string x.b.t))(c4:w.cell? ⟨N,o + 4,none⟩=some (.int .i64 x.pts)) :
  (Instr.loadAt 48 (.pointer (some ⟨N,o,none⟩))).run Tryz.prog w=.ok (.agg (fJ x)) w:=by
 go_simp
theorem aeF {c:au→au→Int}(L:List au):(L.take 1).Pairwise (TB c au.ix):=by
 cases L with
 | nil=>exact List.Pairwise.nil
 | cons x r=>exact YS _ _
theorem wU {α:Type}(P A:List α)(x:α)(R:List α):(P++A++x::R)[P.length + A.length]? =some x:=by
 rw [ZF (by simp),Z4,Nat.sub_self];rfl
theorem Qw {c:au→au→Int}(hc:fC c){w0 w:World}{cs:List Chunk}{B g n cap:Nat}(f:Nat)(caps:Array Value)(hf:CY f caps c)(P L R:List au)(S:Mem w0 w (.own aY B 48 (.slice (some ⟨g,0,none⟩) n cap) (P++L++R)::cs))(hn:n=(P++L++R).length)(hl:n≤1000000)(hix:L.Pairwise (fun a b=>a.ix < b.ix))(a b:Nat)(ha:a=P.length)(hb:b=P.length + L.length) :
  Calls Tryz.prog 205 #[.slice (some ⟨g,0,none⟩) n cap,.int .i64 a,.int .i64 b,.func (.func f) #[] caps] w (C9 c P L R w0 cs B g n cap):=by
 have ef:=hf.1;have Hf:=Z9 hf.2;have Hn:Hid (n=P.length + L.length + R.length):=by show _=_;rw [hn];simp;omega
 have jP:=Z9 hix;have Ha:=Z9 ha;have Hb:=Z9 hb;have Hc:=Z9 hc;have hbn:b≤n:=by have:=Hn.out;omega
 have hab:a≤b:=by omega
 clear hn hix ha hb hf hc;go_enter Tryz.func205,Tryz.ntmps205
 go_wp2_with fail
 go_loopw [8,9] (fun s8 s9 wr=>∃ (q i:Nat) (M:List au),1≤q∧s8=.int .i64 i∧Hid (i=P.length + q)∧Hid (q≤max 1 L.length)∧Hid (M.Perm (L.take q))∧Hid (M.Pairwise (TB c au.ix))∧Mem w0 wr (.own aY B 48 (.slice (some ⟨g,0,none⟩) n cap) (P++M++(L.drop q++R))::cs)) (fun s8 _ _=>b - (intOf s8).toNat)
 case atStart =>
  refine ⟨1,a + 1,L.take 1,Z5 _,by go_num,(by show _=_;have:=Ha.out;omega),Nat.le_max_left _ _,.refl _,aeF L,?_⟩;rw [show P++L.take 1++(L.drop 1++R)=P++L++R by rw [← ZM,ZM P,YK]];exact S
 case round =>
  clear S;obtain ⟨q,i,M,hq1,rfl,Hi,Hq,Hp,Hs,S⟩:=hrel;by_cases hlt:i < b
  ·have Qx:q < L.length:=by have:=Hi.out;have:=Hb.out;omega
   obtain ⟨x,hx⟩:∃ x,L[q]? =some x:=⟨_,Z8 Qx⟩;have Xz:M.length=q:=by rw [Hp.out.length_eq,ZR];omega
   have hdr:L.drop q=x::L.drop (q + 1):=by
    obtain ⟨h1,rfl⟩:=List.getElem?_eq_some_iff.1 hx;exact Zz h1
   have HB:Hid (qO au.ix M [x]):=fun y hy z hz=>by
    rw [List.mem_singleton.1 hz];have h1:=Hp.out.mem_iff.1 hy;obtain ⟨k,hk⟩:=List.mem_iff_getElem?.1 h1;rw [List.getElem?_take] at hk;split at hk
    ·rename_i hkq;obtain ⟨k1,e1⟩:=List.getElem?_eq_some_iff.1 hk;obtain ⟨k2,e2⟩:=List.getElem?_eq_some_iff.1 hx;have h3:=List.pairwise_iff_getElem.1 jP.out k q k1 k2 hkq;rw [e1,e2] at h3;exact h3
    ·cases hk
   have HP2:Hid ((M++[x]).Perm (L.take (q + 1))):=by
    show List.Perm _ _;rw [take_snoc hx];exact Hp.out.append_right _
   have HD:Hid ((L.drop (q + 1)).length + (q + 1)=L.length):=by show _=_;rw [ZK];omega
   rw [hdr] at S;have XA:=Z9 Xz;have XB:=Z9 Qx;have hin:i < n:=by omega
   clear hx hdr Hp Xz Qx Hq;go_upto_region 4 with fail
   go_loopw [9] (fun s9 wr=>∃ (j:Nat) (M1 M2:List au),s9=.int .i64 j∧j≤i∧Hid (M=M1++M2)∧Hid (j=P.length + M1.length)∧Hid (∀ y,M2.head? =some y→c x y < 0)∧Mem w0 wr (.own aY B 48 (.slice (some ⟨g,0,none⟩) n cap) (P++M1++x::(M2++(L.drop (q + 1)++R)))::cs)) (fun s9 _=>(intOf s9).toNat)
   case atStart=>exact ⟨i,M,[],rfl,Z5 _,(ZH _).symm,(by show _=_;rw [XA.out];exact Hi.out),(fun y hy=>by cases hy),S⟩
   case round =>
    clear S;obtain ⟨j,M1,M2,rfl,hji,HM,Hj,Hh,S⟩:=hrel;have hyl:Hid (n=(P++M1++x::(M2++(L.drop (q + 1)++R))).length):=by
     show _=_;have h1:=XA.out;rw [HM.out,Z4] at h1;have h2:=HD.out;have h3:=Hn.out;simp only [Z4,ZV] at h1 h2 h3 ⊢;omega
    rcases List.eq_nil_or_concat M1 with rfl | ⟨M0,y,rfl⟩
    ·have hja:j=a:=by have h1:=Hj.out;have h2:=Ha.out;simp only [ZO] at h1;omega
     have hgt:(decide ((a:Int) < (j:Int)))=false:=by rw [hja];simp
     have XC:Hid ([]++x::M2=x::M2):=rfl;have IY:=Z9 (LZ (ix:=au.ix) (y:=x) (L1:=[]) (L2:=M2) Hc.out (by have:=Hs.out;rw [HM.out] at this;exact this) (by have:=HB.out;rw [HM.out] at this;exact this) (fun y hy=>by cases hy) Hh.out);go_wp2_with fail
     refine dF (fun w'=>Below wr.heap.size wr w') [(true,0),(true,1),(true,2),(true,3),(true,4),(true,5),(true,6),(true,7),(true,8),(true,9),(true,10),(true,11),(true,12),(true,13),(false,14),(true,15),(true,16)] (by kernel_rfl) (by kernel_rfl) (fun w' hd=>hd.below _) (fun KK aF wd aW=>?_);have hC:=aW.below wr.heap.size;clear aW;refine aA ?_;refine aV rfl (fun K hK=>?_) hC;go_wp2_with fail
     refine ⟨hC,?_⟩;refine aA ?_;refine dG ?_;simp only [Exit.then];refine aF _ _ ?_;have S1:=S.below hC;clear S hC;go_wp2_with fail
     go_roundw
     case rel =>
      refine ⟨q + 1,i + 1,x::M2,by omega,by go_num,(by show _=_;have:=Hi.out;omega),(by show _≤_;have h1:=Nat.le_max_right 1 L.length;have h2:=XB.out;omega),IY.out.1.trans ?_,IY.out.2,?_⟩
      ·have:=HP2.out
       rw [HM.out] at this;exact this
      ·rw [show P++x::M2++(L.drop (q + 1)++R)=P++[]++x::(M2++(L.drop (q + 1)++R)) by simp];exact S1
     case measure=>simp [intOf];omega
    ·rw [List.concat_eq_append] at *;obtain ⟨z,hz⟩:∃ z,z=P.length + M0.length:=⟨_,rfl⟩;have hjz:j=z + 1:=by have h1:=Hj.out;simp only [Z4,ZV,ZO] at h1;omega
     have hza:a≤z:=by have:=Ha.out;omega
     have Hz:=Z9 hz;clear hz;subst hjz;have hy:(P++(M0++[y])++x::(M2++(L.drop (q + 1)++R)))[z]? =some y:=by
      rw [Hz.out,show P++(M0++[y])++x::(M2++(L.drop (q + 1)++R))=P++M0++y::(x::(M2++(L.drop (q + 1)++R))) by simp];exact wU P M0 y _
     have hxx:(P++(M0++[y])++x::(M2++(L.drop (q + 1)++R)))[z + 1]? =some x:=by
      have:=wU P (M0++[y]) x (M2++(L.drop (q + 1)++R))
      rw [← Hj.out] at this;exact this
     have Hy:=Z9 hy;have Hx:=Z9 hxx;clear hy hxx;obtain ⟨⟨c0,c1,c2,c3,c4⟩,IQ,cf1,IU,cf3,IV⟩:=(S.ow 0 rfl).uP hyl.out z y Hy.out;obtain ⟨⟨d0,d1,d2,d3,d4⟩,CZ,jy,df2,IW,IX⟩:=(S.ow 0 rfl).uP hyl.out (z + 1) x Hx.out;have hg:=S.lt (Y2 ..) (k:=g) rfl;have uQ:=Z9 (fun w' (h:Below wr.heap.size wr w')=>Qv (N:=g) (o:=z * 5) ((h.cell (p:=⟨g,_,none⟩) hg).trans c0) ((h.cell (p:=⟨g,_,none⟩) hg).trans c1) ((h.cell (p:=⟨g,_,none⟩) hg).trans c2) ((h.cell (p:=⟨g,_,none⟩) hg).trans c3) ((h.cell (p:=⟨g,_,none⟩) hg).trans c4));have uS:=Z9 (fun w' (h:Below wr.heap.size wr w')=>Qv (N:=g) (o:=(z + 1) * 5) ((h.cell (p:=⟨g,_,none⟩) hg).trans d0) ((h.cell (p:=⟨g,_,none⟩) hg).trans d1) ((h.cell (p:=⟨g,_,none⟩) hg).trans d2) ((h.cell (p:=⟨g,_,none⟩) hg).trans d3) ((h.cell (p:=⟨g,_,none⟩) hg).trans d4));obtain ⟨cm,fO⟩:∃ cm,Hid (c x y=cm):=⟨_,Z9 rfl⟩;have HS:=Z9 S;have hzn:z + 1 < n:=by omega
     have e0:(decide ((a:Int) < ((z + 1:Nat):Int)))=true:=by rw [decide_eq_true_eq];omega
     have Qy:(decide ((a:Int) < (z:Int) + 1))=true:=by rw [decide_eq_true_eq];omega
     have e1:((z + 1:Nat):Int) - 1=(z:Int):=by omega
     have hz0:(z:Int) < n:=by omega
     clear S hg c0 c1 c2 c3 c4 IQ cf1 IU cf3 IV d0 d1 d2 d3 d4 CZ jy df2 IW IX;go_wp2_with fail
     refine dF (fun w'=>Below wr.heap.size wr w') [(true,0),(true,1),(true,2),(true,3),(true,4),(true,5),(true,6),(true,7),(true,8),(true,9),(true,10),(true,11),(true,12),(true,13),(false,14),(true,15),(true,16)] (by kernel_rfl) (by kernel_rfl) (fun w' hd=>hd.below _) (fun KK aF wd aW=>?_);have hC:=aW.below wr.heap.size;clear aW;refine aA ?_;refine bV (.agg (fJ x)) rfl rfl rfl (fun w' h=>uS.out w' h) ?_;refine aA ?_;refine bV (.agg (fJ y)) rfl rfl rfl (fun w' h=>uQ.out w' h) ?_;refine aA ?_;refine aV rfl (fun K hK=>?_) hC;have Ho:=Z9 (Hf.out x y wd);rw [show c x y=cm from fO.out] at Ho;go_wp2_with fail
     refine (Ho.out).mono ?_;rintro e w3 ⟨rfl,hl3⟩;have dB:=hC.trans (hl3.mono hC.size);clear Ho hl3;go_wp2_with fail
     refine ⟨dB,?_⟩;refine aA ?_;refine dG ?_;simp only [Exit.then];refine aF _ _ ?_;have S1:=HS.out.below dB;clear HS hC dB uS uQ;by_cases hcm:cm < 0
     ·obtain ⟨⟨c0,c1,c2,c3,c4⟩,IQ,cf1,IU,cf3,IV⟩:=(S1.ow 0 rfl).uP hyl.out z y Hy.out;obtain ⟨⟨d0,d1,d2,d3,d4⟩,CZ,jy,df2,IW,IX⟩:=(S1.ow 0 rfl).uP hyl.out (z + 1) x Hx.out;have HS:=Z9 S1;clear S1;go_wp2_with fail
      go_region
      go_wp2_with fail
      go_roundw
      case rel =>
       have S2:=HS.out.MG hyl.out (z + 1) z x y Hx.out Hy.out (by omega);refine ⟨z,M0,y::M2,by go_num,by omega,(by show _=_;rw [HM.out];simp),Hz.out,(fun u hu=>by cases hu;rw [fO.out];exact hcm),?_⟩;have e9:=Xh (P++M0) (M2++(L.drop (q + 1)++R)) y x;rw [Z4,← Hz.out,show P++M0++y::x::(M2++(L.drop (q + 1)++R))=P++(M0++[y])++x::(M2++(L.drop (q + 1)++R)) by simp] at e9;rw [e9] at S2;exact S2.below ((show je _ _ from rfl).below _)
      case measure=>simp [intOf]
     ·have IY:=Z9 (LZ (ix:=au.ix) (y:=x) (L1:=M0++[y]) (L2:=M2) Hc.out (by have:=Hs.out;rw [HM.out] at this;exact this) (by have:=HB.out;rw [HM.out] at this;exact this) (fun u hu=>by
       have hu2:(M0++[y]).getLast? =some y:=by simp
       rw [hu2] at hu;cases hu;rw [fO.out];exact hcm) Hh.out)
      clear e0 Qy e1;go_wp2_with fail
      go_roundw
      case rel =>
       refine ⟨q + 1,i + 1,(M0++[y])++x::M2,by omega,by go_num,(by show _=_;have:=Hi.out;omega),(by show _≤_;have h1:=Nat.le_max_right 1 L.length;have h2:=XB.out;omega),IY.out.1.trans ?_,IY.out.2,?_⟩
       ·have:=HP2.out
        rw [HM.out] at this;exact this
       ·rw [show P++((M0++[y])++x::M2)++(L.drop (q + 1)++R)=P++(M0++[y])++x::(M2++(L.drop (q + 1)++R)) by simp];exact S1
      case measure=>simp [intOf];omega
  ·have hqe:L.length≤q:=by have:=Hi.out;have:=Hb.out;omega
   go_wp2_with fail
   go_end0;refine ⟨rfl,M,?_,Hs.out,?_⟩
   ·have:=Hp.out
    rw [List.take_of_length_le hqe] at this;exact this
   ·rw [ZJ hqe,Y4] at S;exact S
end
section
open Go Go.RowKit
theorem Fj {w:World}{M:Nat→Prop}{B E g n cap:Nat}{ys:List au}(h:Own aY M B E w (.slice (some ⟨g,0,none⟩) n cap) ys)(hn:n=ys.length)(k:Nat)(x:au)(hx:ys[k]? =some x):∀ w',Below w.heap.size w w'→(Instr.loadAt 48 (.pointer (some ⟨g,k * 5,none⟩))).run Tryz.prog w'=.ok (.agg (fJ x)) w':=fun w' hb=>by
 have hg:=(h.lt g rfl).2;obtain ⟨⟨c0,c1,c2,c3,c4⟩,_⟩:=h.uP hn k x hx;exact Qv ((hb.cell (p:=⟨g,_,none⟩) hg).trans c0) ((hb.cell (p:=⟨g,_,none⟩) hg).trans c1) ((hb.cell (p:=⟨g,_,none⟩) hg).trans c2) ((hb.cell (p:=⟨g,_,none⟩) hg).trans c3) ((hb.cell (p:=⟨g,_,none⟩) hg).trans c4)
theorem Qz {i j:Nat}(h:i < j):∃ k,i≤k∧k < j∧((i:Int) + (j:Int)) / 2=(k:Int):=⟨(i + j) / 2,by omega,by omega,by omega⟩
theorem XD {α:Type}{P A B:List α}{x:α}(h:A.getLast? =some x):(P++A++B)[P.length + A.length - 1]? =some x:=by
 obtain ⟨A',rfl⟩:=List.getLast?_eq_some_iff.1 h;rw [show P++(A'++[x])++B=P++A'++x::B by simp,show P.length + (A'++[x]).length - 1=P.length + A'.length by simp];exact wU P A' x B
theorem XE {α:Type}{P A B C:List α}{x:α}(h:B.head? =some x):(P++A++(B++C))[P.length + A.length]? =some x:=by
 cases B with
 | nil=>cases h
 | cons b r =>
  cases h;exact wU P A x _
def XF (c:au→au→Int)(xs:List au)(x:au)(a i:Nat):Prop:=∀ y,a < i→xs[i - 1]? =some y→c y x < 0
def XG (c:au→au→Int)(xs:List au)(x:au)(b j:Nat):Prop:=∀ y,j < b→xs[j]? =some y→¬ c y x < 0
theorem aeG {c:au→au→Int}(hc:fC c){w0 w:World}{cs:List Chunk}{B g n cap:Nat}(f:Nat)(caps:Array Value)(hf:CY f caps c)(P:List au)(x:au)(R Z:List au)(S:Mem w0 w (.own aY B 48 (.slice (some ⟨g,0,none⟩) n cap) (P++x::R++Z)::cs))(hn:n=(P++x::R++Z).length)(hl:n≤1000000)(hR:R.Pairwise (TB c au.ix))(hB:qO au.ix [x] R)(a m b:Nat)(ha:a=P.length)(hm:m=a + 1)(hb:b=m + R.length) :
  Calls Tryz.prog 206 #[.slice (some ⟨g,0,none⟩) n cap,.int .i64 a,.int .i64 m,.int .i64 b,.func (.func f) #[] caps] w (C9 c P (x::R) Z w0 cs B g n cap):=by
 have ef:=hf.1;have Hf:=Z9 hf.2;have Hn:=Z9 hn;have hlen:(P++x::R++Z).length=a + 1 + R.length + Z.length:=by rw [ha];simp;omega
 have hbn:b≤n:=by omega
 have Hxa:Hid ((P++x::R++Z)[a]? =some x):=by
  show _=_;rw [ha,show P++x::R++Z=P++[]++x::(R++Z) by simp];exact wU P [] x (R++Z)
 have Ha:=Z9 ha;have HRs:=Z9 hR;have HB:=Z9 hB;have Hc:=Z9 hc;have Hb:=Z9 hb;have Hm:=Z9 hm;have MH:Hid (∀ k:Nat,(P++x::R++Z)[a + 1 + k]? =(R++Z)[k]?):=fun k=>by
  have e1:P++x::R++Z=(P++[x])++(R++Z):=by simp
  rw [e1,ZF (by simp;omega)];congr 1
  simp;omega
 have hlb:m≤b:=by omega
 have hma:a < m:=by omega
 have e1:(m:Int) - (a:Int)=1:=by omega
 have e2:((m:Int) - (a:Int)==1)=true:=by rw [e1];rfl
 obtain ⟨xs,Hxs⟩:∃ xs,Hid (P++x::R++Z=xs):=⟨_,Z9 rfl⟩;rw [Hxs.out] at Hxa MH S Hn;clear hf hn hR hB ha hc hlen hb hm e1;go_enter Tryz.func206,Tryz.ntmps206
 go_wp2_with fail
 go_loopw [10,11] (fun s10 s11 wr=>∃ i j:Nat,s10=.int .i64 i∧s11=.int .i64 j∧m≤i∧i≤j∧j≤b∧Hid (XF c xs x m i)∧Hid (XG c xs x b j)∧Mem w0 wr (.own aY B 48 (.slice (some ⟨g,0,none⟩) n cap) xs::cs)) (fun s10 s11 _=>(intOf s11).toNat - (intOf s10).toNat)
 case atStart=>exact ⟨m,b,rfl,rfl,Z5 _,hlb,Z5 _,(fun y h=>by omega),(fun y h=>by omega),S⟩
 case round =>
  clear S;obtain ⟨i,j,rfl,rfl,hai,hij,hjb,jI,jJ,S⟩:=hrel;by_cases hlt:i < j
  ·obtain ⟨h,h1,h2,eh⟩:=Qz hlt;obtain ⟨y,hy⟩:∃ y,xs[h]? =some y:=⟨_,Z8 (by have:=Hn.out;omega)⟩;have Hy:=Z9 hy;have uQ:=Z9 (Fj (S.ow 0 rfl) Hn.out h y hy);have uS:=Z9 (Fj (S.ow 0 rfl) Hn.out a x Hxa.out);obtain ⟨cm,fO⟩:∃ cm,Hid (c y x=cm):=⟨_,Z9 rfl⟩;have HS:=Z9 S;have hhn:h < n:=by omega
   have han:a < n:=by omega
   clear S hy;go_upto_region 5 with fail
   go_wp2_with fail
   refine dF (fun w'=>Below wr.heap.size wr w') [(true,0),(true,1),(true,2),(true,3),(true,4),(true,5),(true,6),(true,7),(true,8),(false,9),(true,10)] (by kernel_rfl) (by kernel_rfl) (fun w' hd=>hd.below _) (fun KK aF wd aW=>?_);have hC:=aW.below wr.heap.size;clear aW;refine aA ?_;refine bV (.agg (fJ y)) rfl rfl rfl (fun w' h=>uQ.out w' h) ?_;refine aA ?_;refine bV (.agg (fJ x)) rfl rfl rfl (fun w' h=>uS.out w' h) ?_;refine aA ?_;refine aV rfl (fun K hK=>?_) hC;have Ho:=Z9 (Hf.out y x wd);rw [show c y x=cm from fO.out] at Ho;go_wp2_with fail
   refine (Ho.out).mono ?_;rintro e w3 ⟨rfl,hl3⟩;have dB:=hC.trans (hl3.mono hC.size);clear Ho hl3;go_wp2_with fail
   refine ⟨dB,?_⟩;refine aA ?_;refine dG ?_;simp only [Exit.then];refine aF _ _ ?_;have S1:=HS.out.below dB;clear HS hC dB uS uQ;by_cases hcm:cm < 0
   ·have Dc:Hid (XF c xs x m (h + 1)):=fun z _ hz=>by
     rw [Nat.add_sub_cancel,Hy.out] at hz;cases hz;rw [fO.out];exact hcm
    go_wp2_with fail
    go_roundw
    case rel=>exact ⟨h + 1,j,by first | rfl | go_num,by first | rfl | go_num,by omega,by omega,hjb,Dc,jJ,S1⟩
    case measure=>simp [intOf];omega
   ·have Df:Hid (XG c xs x b h):=fun z _ hz=>by
     rw [Hy.out] at hz;cases hz;rw [fO.out];exact hcm
    go_wp2_with fail
    go_roundw
    case rel=>exact ⟨i,h,rfl,rfl,hai,h1,by omega,jI,Df,S1⟩
    case measure=>simp [intOf];omega
  ·obtain rfl:i=j:=by omega
   clear hlt hij;obtain ⟨R1,R2,hRR,hR1⟩:=IC R (i - m) (by have:=Hb.out;omega);obtain ⟨i0,hi0⟩:∃ i0,i0=a + R1.length:=⟨_,rfl⟩;obtain rfl:i=i0 + 1:=by have:=Hm.out;omega
   have gV:Hid ((R1++x::R2).Perm (x::R)∧(R1++x::R2).Pairwise (TB c au.ix)):=by
    have h3:=ael (ix:=au.ix) (x:=x) (R1:=R1) (R2:=R2) Hc.out (by rw [← hRR];exact HRs.out) (by rw [← hRR];exact HB.out) (fun y hy=>jJ.out y (by
     have h4:0 < R2.length:=by cases R2 with | nil=>cases hy | cons _ _=>simp
     have h5:=congrArg Zf hRR;rw [Z4] at h5;have:=Hb.out
     have:=Hm.out
     omega) (by
     have h4:=MH.out R1.length;rw [show a + 1 + R1.length=i0 + 1 by omega] at h4;rw [h4,hRR,ZM];have h6:=XE (P:=[]) (A:=R1) (C:=Z) hy;simpa using h6)) (fun y hy=>jI.out y (by
     have h4:0 < R1.length:=by cases R1 with | nil=>cases hy | cons _ _=>simp
     have:=Hm.out
     omega) (by
     have h4:0 < R1.length:=by cases R1 with | nil=>cases hy | cons _ _=>simp
     have h5:=MH.out (R1.length - 1);rw [show a + 1 + (R1.length - 1)=i0 + 1 - 1 by omega] at h5;rw [h5,hRR,ZM];have h6:=XD (P:=[]) (B:=R2++Z) hy;simpa using h6))
    rw [hRR];exact h3
   have S0:Mem w0 wr (.own aY B 48 (.slice (some ⟨g,0,none⟩) n cap) (P++[]++x::(R1++(R2++Z)))::cs):=by
    rw [show P++[]++x::(R1++(R2++Z))=xs by rw [← Hxs.out,hRR];simp];exact S
   have IZ:Hid (n=a + 1 + R1.length + R2.length + Z.length):=by
    show _=_;rw [Hn.out,← Hxs.out,hRR];simp only [Z4,ZV];have:=Ha.out
    omega
   have zU:=Z9 hi0;clear S jI jJ MH Hn Hxa hRR hR1 hi0 HRs HB Hb Hxs;go_wp2_with fail
   go_loopw [13] (fun s13 wq=>∃ (k:Nat) (Q1 Q2:List au),s13=.int .i64 k∧k≤i0∧Hid (R1=Q1++Q2)∧Hid (k=a + Q1.length)∧Mem w0 wq (.own aY B 48 (.slice (some ⟨g,0,none⟩) n cap) (P++Q1++x::(Q2++(R2++Z)))::cs)) (fun s13 _=>i0 - (intOf s13).toNat)
   case atStart=>exact ⟨a,[],R1,rfl,by have:=zU.out;omega,rfl,rfl,S0⟩
   case round =>
    clear S0;obtain ⟨k,Q1,Q2,rfl,hk,HQ,Hk,S⟩:=hrel;by_cases hlt:k < i0
    ·cases Q2 with
     | nil =>
      exfalso;have h1:=HQ.out;rw [ZH] at h1;have h2:=Hk.out;have h3:=zU.out;rw [h1] at h3;omega
     | cons z Q3 =>
      have hyl:Hid (n=(P++Q1++x::(z::Q3++(R2++Z))).length):=by
       show _=_;have h1:=congrArg Zf HQ.out;have h2:=IZ.out;have h3:=Ha.out;simp only [Z4,ZV] at h1 h2 ⊢;omega
      have hkn:k + 1 < n:=by have:=IZ.out;have:=zU.out;omega
      have HX:Hid ((P++Q1++x::(z::Q3++(R2++Z)))[k]? =some x):=by
       show _=_;rw [Hk.out,Ha.out];exact wU P Q1 x _
      have HZ:Hid ((P++Q1++x::(z::Q3++(R2++Z)))[k + 1]? =some z):=by
       show _=_;have h1:=wU P (Q1++[x]) z (Q3++(R2++Z));rw [show P.length + (Q1++[x]).length=k + 1 by rw [Hk.out,Ha.out];simp;omega,show P++(Q1++[x])++z::(Q3++(R2++Z))=P++Q1++x::(z::Q3++(R2++Z)) by simp] at h1;exact h1
      obtain ⟨⟨c0,c1,c2,c3,c4⟩,IQ,cf1,IU,cf3,IV⟩:=(S.ow 0 rfl).uP hyl.out k x HX.out;obtain ⟨⟨d0,d1,d2,d3,d4⟩,CZ,jy,df2,IW,IX⟩:=(S.ow 0 rfl).uP hyl.out (k + 1) z HZ.out;have HS:=Z9 S;have e0:(decide ((k:Int) < ((i0 + 1:Nat):Int) - 1))=true:=by rw [decide_eq_true_eq];omega
      have Qy:(decide ((k:Int) < (i0:Int)))=true:=by rw [decide_eq_true_eq];omega
      clear S;go_wp2_with fail
      go_region
      go_wp2_with fail
      go_roundw
      case rel =>
       have S2:=HS.out.MG hyl.out k (k + 1) x z HX.out HZ.out (by omega);refine ⟨k + 1,Q1++[z],Q3,by go_num,by omega,(by show _=_;rw [HQ.out];simp),(by show _=_;rw [Hk.out];simp;omega),?_⟩;have e9:=aem (P++Q1) (Q3++(R2++Z)) x z;rw [Z4,← Ha.out,← Hk.out] at e9;rw [show P++Q1++x::(z::Q3++(R2++Z))=P++Q1++x::z::(Q3++(R2++Z)) by simp,e9] at S2;rw [show P++(Q1++[z])++x::(Q3++(R2++Z))=P++Q1++z::x::(Q3++(R2++Z)) by simp];exact S2.below ((show je _ _ from rfl).below _)
      case measure=>simp [intOf];omega
    ·obtain rfl:k=i0:=by omega
     have hQ:Q2=[]:=by
      have h1:=congrArg Zf HQ.out;rw [Z4] at h1;have h2:=Hk.out;have h3:=zU.out;exact List.length_eq_zero_iff.1 (by omega)
     subst hQ;have QA:Hid (R1=Q1):=by show _=_;rw [HQ.out,ZH]
     clear hlt;go_wp2_with fail
     go_end0;refine ⟨rfl,R1++x::R2,gV.out.1,gV.out.2,?_⟩;rw [QA.out,show P++(Q1++x::R2)++Z=P++Q1++x::([]++(R2++Z)) by simp];exact S
end
end Go.Proofs.YtmkkppknaikjjaaGreatDoor
