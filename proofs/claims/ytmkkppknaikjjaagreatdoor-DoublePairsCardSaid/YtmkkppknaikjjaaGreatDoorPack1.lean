/- Several texts in one: RScore, RSurv. -/
import Derived.Test.YtmkkppknaikjjaaGreatDoorPackH
/- handref2: when one told value is later than another; what it scores. -/
set_option maxHeartbeats 16000000
set_option maxRecDepth 100000
open Go.Lib renaming hid→Z9, compareInt→ZL
open List renaming getElem?_eq_getElem→Z8, mem_of_getElem?→Z7, length_append→Z4, length_cons→ZV, map_append→ZP, drop_eq_getElem_cons→Zz, mem_cons_of_mem→Zq, take_length→Zp, mem_cons_self→Y2, take_append_drop→YK, filter_append→YJ
open Go.RowKit.Below renaming refl→ZX
open Nat renaming zero_le→ZN
namespace Go.Proofs.YtmkkppknaikjjaaGreatDoor
section
open Go Go.RowKit
def iC (how:Int)(srcs:List ByteArray)(all:List Tc)(x:Tc):Int :=
 if how=3 then (if x.v.k=1 then zu x else 0)
 else if how=4 then jR all x
 else if how=5 then xU srcs x
 else if how=6∨how=7 then (if x.v.k=1 then -1152921504606846976 else if how=7 then -x.v.n else x.v.n)
 else 0
theorem adP {a b:Tc}(h:b.at' < a.at'):jS a b=true:=by
 have e:ZL a.at' b.at'=1:=by
  unfold ZL;rw [if_neg (show ¬ a.at' < b.at' by omega),if_pos h]
 unfold jS ou;rw [e];rfl
theorem adQ {a b:Tc}(h:a.at' < b.at'):jS a b=false:=by
 have e:ZL a.at' b.at'=-1:=by
  unfold ZL;rw [if_pos h]
 unfold jS ou;rw [e];rfl
theorem adR {a b:Tc}(h:a.at'=b.at'):jS a b=decide (b.no < a.no):=by
 have e:ZL a.at' b.at'=0:=by
  unfold ZL;rw [if_neg (show ¬ a.at' < b.at' by omega),if_neg (show ¬ a.at' > b.at' by omega)]
 unfold jS ou;rw [e,if_neg (by decide)];unfold ZL;by_cases h1:a.no < b.no
 ·simp [h1];omega
 ·by_cases h2:b.no < a.no
  ·simp [h1,h2]
  ·simp [h1,h2]
theorem Wp (a b:aj)(w:World):Calls Tryz.prog 210 #[.agg (aG a),.agg (aG b)] w fun e w'=>e=.returned (.bool (jS a.q b.q))∧Below w.heap.size w w':=by
 obtain ⟨X,hX⟩:∃ X,X=w.heap.size:=⟨_,rfl⟩;have T0:Mem w (w.alloc (.cells (aG a) 214)) [.loc X (aG a) 214]:=(Mem.start w).newAt _ 214 X hX;have T:Mem w _ [.loc X (aG a) 214,.loc (X + 1) (aG b) 214]:=T0.newAt (aG b) 214 (X + 1) (by rw [hX,World.size_alloc]);have Hb:=Z9 T.b;obtain ⟨R,HR⟩:∃ R,Hid (jS a.q b.q=R):=⟨_,Z9 rfl⟩;rw [HR.out];clear T0;go_enter Tryz.func210,Tryz.ntmps210
 go_upto_region 1 with fail
 rw [← hX];clear hX;generalize (w.alloc (.cells (aG a) 214)).alloc (.cells (aG b) 214)=w1 at *;have l0:=(T.lv 0 rfl).all;have l1:=(T.lv 1 rfl).all;by_cases h1:b.q.at' < a.q.at'
 ·have Hr:Hid (true=R):=by show _=_;rw [← HR.out,adP h1]
  clear HR T;go_wp2_with fail
  go_ret;exact ⟨by rw [← Hr.out];first | rfl | simp,Hb.out⟩
 ·by_cases h2:a.q.at'=b.q.at'
  ·have Hr:Hid (decide (b.q.no < a.q.no)=R):=by show _=_;rw [← HR.out,adR h2]
   by_cases h3:b.q.no < a.q.no
   ·rw [decide_eq_true h3] at Hr;clear HR T;go_wp2_with fail
    go_ret;exact ⟨by rw [← Hr.out];first | rfl | simp,Hb.out⟩
   ·rw [decide_eq_false h3] at Hr;clear HR T;go_wp2_with fail
    go_ret;exact ⟨by rw [← Hr.out];first | rfl | simp,Hb.out⟩
  ·have Hr:Hid (false=R):=by show _=_;rw [← HR.out,adQ (by omega)]
   clear HR T;go_wp2_with fail
   go_ret;exact ⟨by rw [← Hr.out];first | rfl | simp,Hb.out⟩
theorem adS {xs:List Int}{v:Value}{w:World}{B:Nat}(h:w.ownsRow B 3 1 v xs.length (xs.map (Value.int .i64))):∃ A c,v=.slice A xs.length c:=by
 rcases (Rd.zx h).2 with ⟨x,c,rfl,h0⟩ | ⟨blk,off,cap,rfl,_⟩
 ·exact ⟨x,c,by rw [h0]⟩
 ·exact ⟨_,cap,rfl⟩
theorem bytes_inj {a b:ByteArray}(h:a.toList=b.toList):a=b:=by
 rw [ByteArray.toList_eq,ByteArray.toList_eq] at h;cases a;cases b;simp only [ByteArray.mk.injEq];exact Array.toList_inj.1 h
theorem adT (a b:Vt):(a=b∧a.k=b.k∧a.t=b.t∧a.n=b.n)∨(a≠b∧(a.k≠b.k∨(a.k=b.k∧a.t.toList≠b.t.toList)∨(a.k=b.k∧a.t.toList=b.t.toList∧a.n≠b.n))):=by
 by_cases h:a=b
 ·subst h;exact .inl ⟨rfl,rfl,rfl,rfl⟩
 ·refine .inr ⟨h,?_⟩;by_cases e1:a.k=b.k
  ·by_cases e2:a.t.toList=b.t.toList
   ·refine .inr (.inr ⟨e1,e2,fun e3=>h ?_⟩);have e4:a.t=b.t:=bytes_inj e2;cases a;cases b;simp only at e1 e3 e4;subst e1 e3 e4;rfl
   ·exact .inr (.inl ⟨e1,e2⟩)
  ·exact .inl e1
theorem adU {xs:List aj}{k:Nat}{y:aj}(x:Tc)(h:xs[k]? =some y):jR ((xs.take (k + 1)).map aj.q) x=jR ((xs.take k).map aj.q) x + (if y.q.v=x.v then 1 else 0):=by
 unfold jR;rw [take_snoc h,ZP,YJ,Z4];by_cases e:y.q.v=x.v <;> simp [e]
theorem adV (N N2:Nat→Prop)(s:Srv)(As:Option Addr)(cA:Nat)(x:aj)(A:Option Addr)(all:List aj)(n c:Nat)(w:World)(hs2:Sl fB N2 w As s.srcs)(hsl:s.srcs.length≤1000000)(hS:Sl bU N w A all)(hn:n=all.length)(hl:all.length≤1000000)
  (hok:x.q.v.t.size≤1000000∧-4611686018427387904≤x.q.v.n∧x.q.v.n≤4611686018427387904) (hU:Tabs w) :
  Calls Tryz.prog 209 #[.agg (bG s As cA),.agg (aG x),.slice A n c] w fun e w'=>e=.returned (.int .i64 (iC s.how s.srcs (all.map aj.q) x.q))∧Below w.heap.size w w':=by
 obtain ⟨R,HR⟩:∃ R,Hid (iC s.how s.srcs (all.map aj.q) x.q=R):=⟨_,Z9 rfl⟩;rw [HR.out];obtain ⟨Y,hY⟩:∃ Y,Y=w.heap.size:=⟨_,rfl⟩;have T0:Mem w (w.alloc (.cells (bG s As cA) 124)) [.loc Y (bG s As cA) 124]:=(Mem.start w).newAt _ 124 Y hY;have T:Mem w _ [.loc Y (bG s As cA) 124,.loc (Y + 1) (aG x) 214]:=T0.newAt (aG x) 214 (Y + 1) (by rw [hY,World.size_alloc]);have HS:=Z9 (fun w' (h:Below w.heap.size w w')=>hS.aK h);have HS2:=Z9 (fun w' (h:Below w.heap.size w w')=>hs2.aK h);have HU:=Z9 (fun w' (h:Below w.heap.size w w')=>Utf8Tabs_below hU h);have Hn:=Z9 hn;have Cj:=Z9 hok.1;have hnum:=hok.2;have hnl:n≤1000000:=by omega
 clear hs2 hS hU hok hl hn T0;go_enter Tryz.func209,Tryz.ntmps209
 go_upto_region 1 with fail
 rw [← hY];clear hY;generalize (w.alloc (.cells (bG s As cA) 124)).alloc (.cells (aG x) 214)=w1 at *;obtain ⟨X,hX⟩:∃ X,X=Y + 1:=⟨_,rfl⟩;rw [← hX] at T ⊢;clear hX;have l0:=(T.lv 0 rfl).all;have l1:=(T.lv 1 rfl).all;have Hb:=Z9 T.b;by_cases h3:s.how=3
 ·have e3:(s.how==3)=true:=by simpa using h3
  by_cases hk:x.q.v.k=1
  ·have ek:(x.q.v.k==1)=true:=by simpa using hk
   have Hp:=Z9 (ES x.q.v.t w1 Cj.out (HU.out w1 T.b));have hrc:=adW x.q.v.t;have Hr:Hid (((pts x.q.v.t.size x.q.v.t).length:Int)=R):=by
    show _=_;rw [← HR.out,hrc];unfold iC;rw [if_pos h3,if_pos hk];rfl
   generalize pts x.q.v.t.size x.q.v.t=ps at *;clear hrc h3 hk HR;go_wp2_with fail
   refine (Hp.out).mono ?_;rintro e w2 ⟨v,rfl,hv,hl2⟩;obtain ⟨A9,c9,rfl⟩:=adS hv;have Hb2:=Z9 (T.below hl2).b;clear hv hl2 Hp l0 l1 T;go_wp2_with fail
   go_ret;exact ⟨aH Hr.out,Hb2.out⟩
  ·have ek:(x.q.v.k==1)=false:=by simpa using hk
   have Hr:Hid ((0:Int)=R):=by
    show _=_;rw [← HR.out];unfold iC;rw [if_pos h3,if_neg hk]
   clear h3 hk HR T;go_wp2_with fail
   go_ret;exact ⟨aH Hr.out,Hb.out⟩
 have e3:(s.how==3)=false:=by simpa using h3
 by_cases h4:s.how=4
 ·have e4:(s.how==4)=true:=by simpa using h4
  have Hr:Hid (jR (all.map aj.q) x.q=R):=by
   show _=_;rw [← HR.out];unfold iC;rw [if_neg h3,if_pos h4]
  clear HR h3 h4;clear l0 l1;have l0:=(T.lv 0 rfl).all;go_upto_region 7 with fail
  clear l0;go_wp2_with fail
  go_loopw [7,28] (fun nv ix wr=>∃ (k:Nat) (m:Int),k≤n∧ix=.int .i64 k∧nv=.int .i64 m∧Hid (m=jR ((all.take k).map aj.q) x.q)∧Hid (0≤m∧m≤k)∧Mem w wr [.loc Y (bG s As cA) 124,.loc X (aG x) 214]) (fun _ ix _=>n - (intOf ix).toNat)
  case atStart=>exact ⟨0,0,ZN _,rfl,rfl,rfl,⟨Int.le_refl _,Int.le_refl _⟩,T⟩
  case round =>
   clear T;obtain ⟨k,m,hk,rfl,rfl,Hm,iU,T⟩:=hrel;by_cases hlt:k < n
   ·obtain ⟨y,hy⟩:∃ y,all[k]? =some y:=⟨_,Z8 (by have:=Hn.out;omega)⟩;obtain ⟨bt,ot,rfl,hbt,d0,d1,d2,d3,d4,d5,d6,d7⟩:=(HS.out wr T.b).wK k y hy;have rM:=Z9 (adU x.q hy);obtain ⟨W9,hW⟩:∃ W9,W9=wr.heap.size:=⟨_,rfl⟩;have S4:Mem w (wr.alloc (.cells (aG y) 214)) [.loc Y (bG s As cA) 124,.loc X (aG x) 214,.loc W9 (aG y) 214]:=T.newAt (aG y) 214 W9 hW;clear hy;go_upto_region 10 with fail
    rw [← hW];clear hW T d0 d1 d2 d3 d4 d5 d6 d7 hbt;generalize wr.alloc (.cells (aG y) 214)=w8 at *;have l1:=(S4.lv 1 rfl).all;have l2:=(S4.lv 2 rfl).all;have S5:Mem w w8 [.loc Y (bG s As cA) 124,.loc X (aG x) 214]:=S4.del 2;clear S4;have hmb:=iU.out;have hwr:IntKind.i64.wrap (m + 1)=m + 1:=IntWalk.i64_in _ (by omega);rcases adT y.q.v x.q.v with ⟨he,e1,e2,e3⟩ | ⟨hne,hd⟩
    ·have Ib:Hid (m + 1=jR ((all.take (k + 1)).map aj.q) x.q):=by
      show _=_;rw [rM.out,if_pos he,← Hm.out]
     have Ic:Hid (0≤m + 1∧m + 1≤((k + 1:Nat):Int)):=by show _∧_;omega
     clear he rM Hm iU hmb;go_wp2_with fail
     go_roundw
     case rel=>exact ⟨k + 1,m + 1,by omega,by go_num,by first | rfl | rw [hwr],Ib,Ic,S5⟩
     case measure=>simp [intOf];omega
    ·have Ib:Hid (m=jR ((all.take (k + 1)).map aj.q) x.q):=by
      show _=_;rw [rM.out,if_neg hne,Int.add_zero,← Hm.out]
     have Ic:Hid (0≤m∧m≤((k + 1:Nat):Int)):=by show _∧_;omega
     clear hne rM Hm iU hmb hwr;rcases hd with e1 | ⟨e1,e2⟩ | ⟨e1,e2,e3⟩
     ·go_wp2_with fail
      go_roundw
      case rel=>exact ⟨k + 1,m,by omega,by go_num,rfl,Ib,Ic,S5⟩
      case measure=>simp [intOf];omega
     ·go_wp2_with fail
      go_roundw
      case rel=>exact ⟨k + 1,m,by omega,by go_num,rfl,Ib,Ic,S5⟩
      case measure=>simp [intOf];omega
     ·go_wp2_with fail
      go_roundw
      case rel=>exact ⟨k + 1,m,by omega,by go_num,rfl,Ib,Ic,S5⟩
      case measure=>simp [intOf];omega
   ·obtain rfl:k=n:=by omega
    have Hr2:Hid (m=R):=by
     show _=_;rw [← Hr.out,Hm.out,List.take_of_length_le (by have:=Hn.out;omega)]
    have Hb9:=Z9 T.b;clear T Hm iU;go_wp2_with fail
    go_ret;exact ⟨aH Hr2.out,Hb9.out⟩
 have e4:(s.how==4)=false:=by simpa using h4
 by_cases h5:s.how=5
 ·have e5:(s.how==5)=true:=by simpa using h5
  have jP:=Z9 (Wq N2 As s.srcs cA x.q.src w1 (HS2.out w1 T.b) hsl);have hrg:=Ws s.srcs x.q.src;have Hr:Hid (xU s.srcs x.q=R):=by
   show _=_;rw [← HR.out];unfold iC;rw [if_neg h3,if_neg h4,if_pos h5]
  unfold xU at Hr;obtain ⟨ix,hix⟩:∃ ix,xW s.srcs x.q.src=ix:=⟨_,rfl⟩;rw [hix] at jP hrg Hr;clear HR h3 h4 h5 hix T;go_wp2_with fail
  refine (jP.out).mono ?_;rintro e _ ⟨rfl,rfl⟩;by_cases h:0≤ix
  ·rw [if_pos h] at Hr;have hwr:IntKind.i64.wrap (-ix)=-ix:=by simp [IntKind.wrap,IntKind.bits,IntKind.signed];omega
   go_wp2_with fail
   go_ret;exact ⟨by first | exact aH Hr.out | (rw [hwr];exact aH Hr.out),Hb.out⟩
  ·rw [if_neg h] at Hr;have hwr:IntKind.i64.wrap (-(s.srcs.length:Int))=-(s.srcs.length:Int):=by simp [IntKind.wrap,IntKind.bits,IntKind.signed];omega
   go_wp2_with fail
   go_ret;exact ⟨by first | exact aH Hr.out | (rw [hwr];exact aH Hr.out),Hb.out⟩
 have e5:(s.how==5)=false:=by simpa using h5
 by_cases jT:s.how=6∨s.how=7
 ·by_cases hk:x.q.v.k=1
  ·have ek:(x.q.v.k==1)=true:=by simpa using hk
   have Hr:Hid ((-1152921504606846976:Int)=R):=by
    show _=_;rw [← HR.out];unfold iC;rw [if_neg h3,if_neg h4,if_neg h5,if_pos jT,if_pos hk]
   clear HR hk T;rcases jT with h | h
   ·have e6:(s.how==6)=true:=by simpa using h
    clear h3 h4 h5 h;go_wp2_with fail
    go_ret;exact ⟨aH Hr.out,Hb.out⟩
   ·have e6:(s.how==6)=false:=by rw [h];rfl
    have e7:(s.how==7)=true:=by simpa using h
    clear h3 h4 h5 h;go_wp2_with fail
    go_ret;exact ⟨aH Hr.out,Hb.out⟩
  ·have ek:(x.q.v.k==1)=false:=by simpa using hk
   have Hr:Hid ((if s.how=7 then -x.q.v.n else x.q.v.n)=R):=by
    show _=_;rw [← HR.out];unfold iC;rw [if_neg h3,if_neg h4,if_neg h5,if_pos jT,if_neg hk]
   clear HR hk T;rcases jT with h | h
   ·have e6:(s.how==6)=true:=by simpa using h
    have e7:(s.how==7)=false:=by rw [h];rfl
    rw [if_neg (by rw [h];decide)] at Hr;clear h3 h4 h5 h;go_wp2_with fail
    go_ret;exact ⟨aH Hr.out,Hb.out⟩
   ·have e6:(s.how==6)=false:=by rw [h];rfl
    have e7:(s.how==7)=true:=by simpa using h
    rw [if_pos h] at Hr;have hwr:IntKind.i64.wrap (-x.q.v.n)=-x.q.v.n:=by simp [IntKind.wrap,IntKind.bits,IntKind.signed];omega
    clear h3 h4 h5 h;go_wp2_with fail
    go_ret;exact ⟨by first | exact aH Hr.out | (rw [hwr];exact aH Hr.out),Hb.out⟩
 ·have e6:(s.how==6)=false:=by simpa using fun e=>jT (.inl e)
  have e7:(s.how==7)=false:=by simpa using fun e=>jT (.inr e)
  have Hr:Hid ((0:Int)=R):=by
   show _=_;rw [← HR.out];unfold iC;rw [if_neg h3,if_neg h4,if_neg h5,if_neg jT]
  clear h3 h4 h5 jT HR T;go_wp2_with fail
  go_ret;exact ⟨aH Hr.out,Hb.out⟩
end
section
open Go Go.RowKit
def ET (how:Int)(srcs:List ByteArray)(all:List Tc)(x m:Tc):Bool :=
 if how=2 then jS m x else decide (iC how srcs all m < iC how srcs all x) || (decide (iC how srcs all x=iC how srcs all m) && jS x m)
def Cm (how:Int)(srcs:List ByteArray)(x0:Tc)(r0:List Tc):Tc:=pick (ET how srcs (x0::r0)) x0 r0
theorem Wu {w:World}{X:Nat}{a b c:Value}(h:LV w X #[a,b,c] 124):(Instr.loadAt 124 (.pointer (some ⟨X,0,none⟩))).run Tryz.prog w=.ok (.agg #[a,b,c]) w:=by
 have c0:=h.all;go_simp
theorem Wv {w:World}{X:Nat}{a b c:Value}(h:LV w X #[a,b,c] 124):(loadVar 124 ⟨X,0,none⟩).run Tryz.prog w=.ok (.agg #[a,b,c]) w:=by
 have c0:=h.all;go_simp
theorem Sl.adX {N:Nat→Prop}{w:World}{b o:Nat}{x0:aj}{r0:List aj}(h:Sl bU N w (some ⟨b,o,none⟩) (x0::r0)):Sl bU N w (some ⟨b,o + 8,none⟩) r0:=fun i x hi=>by
 obtain ⟨blk,off,l,e1,h1,h2,h3,h4⟩:=h (i + 1) x (by simpa using hi);simp only [Option.some.injEq,Addr.mk.injEq,and_true] at e1;obtain ⟨rfl,rfl⟩:=e1;refine ⟨b,o + 8,l,rfl,h1,h2,h3,fun j v hj=>?_⟩;have h5:=h4 j v hj;have e:o + (i + 1) * bU.size + j=o + 8 + i * bU.size + j:=by
  show o + (i + 1) * 8 + j=o + 8 + i * 8 + j;omega
 rw [e] at h5;exact h5
theorem adY (N N2:Nat→Prop)(s:Srv)(As:Option Addr)(cA:Nat)(A:Option Addr)(x0:aj)(r0:List aj)(n c:Nat)(w:World)(hs2:Sl fB N2 w As s.srcs)(hsl:s.srcs.length≤1000000)(hS:Sl bU N w A (x0::r0))(hn:n=(x0::r0).length)(hc:n≤c)(hl:(x0::r0).length≤1000000)
  (hok:∀ a∈x0::r0,a.q.v.t.size≤1000000∧-4611686018427387904≤a.q.v.n∧a.q.v.n≤4611686018427387904) (hU:Tabs w) :
  Calls Tryz.prog 134 #[.agg (bG s As cA),.slice A n c] w fun e w'=>(∃ g:aj,g.q=Cm s.how s.srcs x0.q (r0.map aj.q)∧e=.returned (.agg (aG g)))∧Below w.heap.size w w':=by
 obtain ⟨n1,rfl⟩:∃ n1,n=n1 + 1:=⟨r0.length,hn⟩;have iT:Hid (n1=r0.length):=by show _=_;simp only [ZV] at hn;omega
 have hnl:n1≤1000000:=by have:=iT.out;simp only [ZV] at hl;omega
 obtain ⟨p,hp⟩:∃ p,ET s.how s.srcs (x0.q::r0.map aj.q)=p:=⟨_,rfl⟩;obtain ⟨g,hg⟩:∃ g,dS p x0 r0=g:=⟨_,rfl⟩;have Hg:Hid (g.q=Cm s.how s.srcs x0.q (r0.map aj.q)):=by
  show _=_;rw [← hg,xX];unfold Cm;rw [hp]
 have Hgp:Hid (dS p x0 r0=g):=hg;obtain ⟨sc,hsc⟩:∃ sc:Tc→Int,(fun x=>iC s.how s.srcs (x0.q::r0.map aj.q) x)=sc:=⟨_,rfl⟩;have Hp:Hid (∀ x m,p x m=if s.how=2 then jS m x else decide (sc m < sc x) || (decide (sc x=sc m) && jS x m)):=fun x m=>by rw [← hp,← hsc];rfl
 obtain ⟨Y,hY⟩:∃ Y,Y=w.heap.size:=⟨_,rfl⟩;have T0:Mem w (w.alloc (.cells (bG s As cA) 124)) [.loc Y (bG s As cA) 124]:=(Mem.start w).newAt _ 124 Y hY;have T:Mem w ((w.alloc (.cells (bG s As cA) 124)).alloc (.cells jd 214)) [.loc Y (bG s As cA) 124,.loc (Y + 1) jd 214]:=T0.newAt jd 214 (Y + 1) (by rw [hY,World.size_alloc]);have HS:=Z9 (fun w' (h:Below w.heap.size w w')=>hS.aK h);have Wx:Hid (∀ w' (a:aj),a∈x0::r0→Below w.heap.size w w'→Calls Tryz.prog 209 #[.agg (bG s As cA),.agg (aG a),.slice A (n1 + 1) c] w' fun e w''=>e=.returned (.int .i64 (sc a.q))∧Below w'.heap.size w' w''):=fun w' a ha h=>by
  have h1:=adV N N2 s As cA a A (x0::r0) (n1 + 1) c w' (hs2.aK h) hsl (hS.aK h) hn hl (hok a ha) (Utf8Tabs_below hU h);rw [← hsc];exact h1
 have Hc:=Z9 hc;clear hs2 hS hok hl T0 hsc hp hg hn hU hc;go_enter Tryz.func134,Tryz.ntmps134
 go_upto_region 1 with fail
 rw [← hY];clear hY;generalize (w.alloc (.cells (bG s As cA) 124)).alloc (.cells jd 214)=w1 at *;obtain ⟨Z,hZ⟩:∃ Z,Z=Y + 1:=⟨_,rfl⟩;rw [← hZ] at T ⊢;clear hZ;obtain ⟨bt,ot,rfl,hbt,d0,d1,d2,d3,d4,d5,d6,d7⟩:=(HS.out w1 T.b).wK 0 x0 rfl;rw [Nat.zero_mul,Nat.add_zero] at d0 d1 d2 d3 d4 d5 d6 d7;obtain ⟨B,hB⟩:∃ B,B=w1.heap.size:=⟨_,rfl⟩;have T1:Mem w (w1.alloc (.cells (aG x0) 214)) [.loc B (aG x0) 214,.loc Y (bG s As cA) 124,.loc Z jd 214]:=(T.newAt (aG x0) 214 B hB).front;go_upto_region 2 with fail
 rw [← hB];clear hB T d0 d1 d2 d3 d4 d5 d6 d7 hbt;generalize w1.alloc (.cells (aG x0) 214)=w2 at *;go_cut [14,15,16] (fun a b i wx=>∃ (A4:Option Addr) (c4:Nat),a=.slice A4 n1 c4∧b=.int .i64 n1∧i=.int .i64 0∧Hid (∀ w',Below w.heap.size w w'→Sl bU N w' A4 r0)∧Mem w wx [.loc B (aG x0) 214,.loc Y (bG s As cA) 124,.loc Z jd 214])
 case first =>
  by_cases hc1:c=1
  ·subst hc1;have hn0:n1=0:=by have:=Hc.out;omega
   subst hn0;have hr0:r0=[]:=by have:=iT.out;exact List.length_eq_zero_iff.1 this.symm
   have Hs:Hid (∀ w',Below w.heap.size w w'→Sl bU N w' (some ⟨bt,ot,none⟩) r0):=fun w' _=>by rw [hr0];exact fun k x h=>by cases h
   clear hr0;go_wp2_with fail
   go_meet;exact ⟨_,_,rfl,rfl,rfl,Hs,T1⟩
  ·have Hs:Hid (∀ w',Below w.heap.size w w'→Sl bU N w' (some ⟨bt,ot + 8,none⟩) r0):=fun w' h=>(HS.out w' h).adX;go_wp2_with fail
   go_meet;exact ⟨_,_,rfl,rfl,rfl,Hs,T1⟩
 case rest =>
  clear T1 Hc HS;obtain ⟨A4,c4,rfl,rfl,rfl,uD,T⟩:=hcut;have Hxs:Hid (∀ a∈r0,a∈x0::r0):=fun a h=>Zq _ h;have zy:Hid (x0∈x0::r0):=Y2 ..;have adZ:Hid (∀ (k:Nat) (x m:aj),r0[k]? =some x→dS p m (r0.drop k)=dS p (if p x.q m.q then x else m) (r0.drop (k + 1))):=fun k x m h=>PW h;have Wy:Hid (dS p x0 (r0.drop 0)=g):=by rw [List.drop_zero];exact Hgp.out
  generalize wc=w3 at *;go_wp2_with fail
  go_loopw [16] (fun i wr=>∃ (k:Nat) (m:aj),i=.int .i64 k∧k≤n1∧Hid (m∈x0::r0)∧Hid (dS p m (r0.drop k)=g)∧Mem w wr [.loc B (aG m) 214,.loc Y (bG s As cA) 124,.loc Z jd 214]) (fun i _=>n1 - (intOf i).toNat)
  case atStart=>exact ⟨0,x0,rfl,ZN _,zy,Wy,T⟩
  case round =>
   clear T zy Wy;obtain ⟨k,m,rfl,hk,Hm,LH,T⟩:=hrel;by_cases hlt:k < n1
   ·obtain ⟨x,hx⟩:∃ x,r0[k]? =some x:=⟨_,Z8 (by have:=iT.out;omega)⟩;obtain ⟨b4,o4,rfl,hb4,d0,d1,d2,d3,d4,d5,d6,d7⟩:=(uD.out wr T.b).wK k x hx;have Hx:=Z9 (Hxs.out x (Z7 hx));have dY:=Z9 (adZ.out k x m hx);rw [LH.out] at dY;obtain ⟨W9,hW⟩:∃ W9,W9=wr.heap.size:=⟨_,rfl⟩;have S1:Mem w (wr.alloc (.cells (aG x) 214)) [.loc B (aG m) 214,.loc Y (bG s As cA) 124,.loc Z jd 214,.loc W9 (aG x) 214]:=T.newAt (aG x) 214 W9 hW;clear hx LH;go_upto_region 5 with fail
    rw [← hW];clear hW T d0 d1 d2 d3 d4 d5 d6 d7 hb4;generalize wr.alloc (.cells (aG x) 214)=w5 at *;refine dF (fun w'=>LV w' Y (bG s As cA) 124∧LV w' W9 (aG x) 214∧LV w' B (aG m) 214) [(true,0),(true,1),(true,2),(true,4),(true,5),(true,6),(false,3),(false,7),(true,8),(true,9)] (by kernel_rfl) (by kernel_rfl) (fun w' hd=>⟨(S1.below (hd.below _)).lv 1 rfl,(S1.below (hd.below _)).lv 3 rfl,(S1.below (hd.below _)).lv 0 rfl⟩) (fun KK aF wd hd=>?_);have S2:=S1.below (hd.below _);clear hd S1;refine aA ?_;refine jq (.agg (bG s As cA)) rfl rfl rfl rfl (fun w' h=>Wu h.1) ?_;refine jq (.agg (aG x)) rfl rfl rfl rfl (fun w' h=>WA h.2.1) ?_;refine aA ?_;refine jq (.agg (bG s As cA)) rfl rfl rfl rfl (fun w' h=>Wu h.1) ?_;refine jq (.agg (aG m)) rfl rfl rfl rfl (fun w' h=>WA h.2.2) ?_;refine aA ?_;refine aV rfl (fun K hK=>?_) ⟨S2.lv 1 rfl,S2.lv 3 rfl,S2.lv 0 rfl⟩;have H1:=Z9 (Wx.out wd x Hx.out S2.b);obtain ⟨a,ha⟩:∃ a,sc x.q=a:=⟨_,rfl⟩;obtain ⟨b,hb⟩:∃ b,sc m.q=b:=⟨_,rfl⟩;rw [ha] at H1;go_wp2_with fail
    refine (H1.out).mono ?_;rintro e w6 ⟨rfl,uF⟩;have S3:=S2.below uF;clear uF S2 H1;have dB:LV w6 Y (bG s As cA) 124∧LV w6 W9 (aG x) 214∧LV w6 B (aG m) 214:=⟨S3.lv 1 rfl,S3.lv 3 rfl,S3.lv 0 rfl⟩;go_wp2_with fail
    refine ⟨dB,?_⟩;refine aV rfl (fun K hK=>?_) dB;clear dB;have H2:=Z9 (Wx.out w6 m Hm.out S3.b);rw [hb] at H2;go_wp2_with fail
    refine (H2.out).mono ?_;rintro e w7 ⟨rfl,oz⟩;have S4:=S3.below oz;clear oz S3 H2;have Ie:LV w7 Y (bG s As cA) 124∧LV w7 W9 (aG x) 214∧LV w7 B (aG m) 214:=⟨S4.lv 1 rfl,S4.lv 3 rfl,S4.lv 0 rfl⟩;go_wp2_with fail
    refine ⟨Ie,?_⟩;clear Ie;refine aA ?_;refine dG ?_;simp only [Exit.then];refine aF _ _ ?_;clear aF KK;have iM:=Z9 (Hp.out x.q m.q);rw [ha,hb] at iM;clear ha hb;have y0:=(S4.lv 1 rfl).all;have zA:=(S4.lv 3 rfl).all;have m0:=(S4.lv 0 rfl).all;by_cases h2:s.how=2
    ·have e2:(s.how==2)=true:=by simpa using h2
     have f2:(s.how != 2)=false:=by rw [bne,e2];rfl
     rw [if_pos h2] at iM;have CB:=Z9 (Wp m x w7);obtain ⟨lb,hlb⟩:∃ lb,jS m.q x.q=lb:=⟨_,rfl⟩;rw [hlb] at iM CB;clear hlb h2;go_wp2_with fail
     refine (CB.out).mono ?_;rintro e w8 ⟨rfl,eG⟩;have S5:=S4.below eG;clear S4 eG CB y0 zA m0;have y0:=(S5.lv 1 rfl).all;cases lb
     ·have iU:Hid (dS p m (r0.drop (k + 1))=g):=by
       have h:=dY.out;rw [if_neg (by rw [iM.out];decide)] at h;exact h.symm
      have S6:Mem w _ [.loc B (aG m) 214,.loc Y (bG s As cA) 124,.loc Z jd 214]:=S5.del 3;clear S5 iM dY;go_wp2_with fail
      go_roundw
      case rel=>exact ⟨k + 1,m,by go_num,by omega,Hm,iU,S6⟩
      case measure=>simp [intOf];omega
     ·have iU:Hid (dS p x (r0.drop (k + 1))=g):=by
       have h:=dY.out;rw [if_pos iM.out] at h;exact h.symm
      have zA:=(S5.lv 3 rfl).all;have m0:=(S5.lv 0 rfl).all;have S6:Mem w _ [.loc B (aG x) 214,.loc Y (bG s As cA) 124,.loc Z jd 214]:=(S5.zB x).del 3;clear S5 iM dY;go_wp2_with fail
      go_roundw
      case rel=>exact ⟨k + 1,x,by go_num,by omega,Hx,iU,S6⟩
      case measure=>simp [intOf];omega
    ·have e2:(s.how==2)=false:=by simpa using h2
     have f2:(s.how != 2)=true:=by rw [bne,e2];rfl
     rw [if_neg h2] at iM;clear h2;by_cases h3:b < a
     ·have zC:Hid (p x.q m.q=true):=by show _=_;rw [iM.out,decide_eq_true h3];rfl
      have e3:decide (b < a)=true:=decide_eq_true h3;have iM:=zC;have S5:=S4;clear S4 y0 zA m0 zC;have y0:=(S5.lv 1 rfl).all;have iU:Hid (dS p x (r0.drop (k + 1))=g):=by
       have h:=dY.out;rw [if_pos iM.out] at h;exact h.symm
      have zA:=(S5.lv 3 rfl).all;have m0:=(S5.lv 0 rfl).all;have S6:Mem w _ [.loc B (aG x) 214,.loc Y (bG s As cA) 124,.loc Z jd 214]:=(S5.zB x).del 3;clear S5 iM dY;go_wp2_with fail
      go_roundw
      case rel=>exact ⟨k + 1,x,by go_num,by omega,Hx,iU,S6⟩
      case measure=>simp [intOf];omega
     ·have e3:decide (b < a)=false:=decide_eq_false h3;by_cases h4:a=b
      ·have e4:(a==b)=true:=by simpa using h4
       have CB:=Z9 (Wp x m w7);obtain ⟨lb,hlb⟩:∃ lb,jS x.q m.q=lb:=⟨_,rfl⟩;rw [hlb] at iM CB;have zC:Hid (p x.q m.q=lb):=by show _=_;rw [iM.out,e3,decide_eq_true h4];cases lb <;> rfl
       replace iM:=zC;clear hlb h3 h4 zC;go_wp2_with fail
       refine (CB.out).mono ?_;rintro e w8 ⟨rfl,eG⟩;have S5:=S4.below eG;clear S4 eG CB y0 zA m0;have y0:=(S5.lv 1 rfl).all;cases lb
       ·have iU:Hid (dS p m (r0.drop (k + 1))=g):=by
         have h:=dY.out;rw [if_neg (by rw [iM.out];decide)] at h;exact h.symm
        have S6:Mem w _ [.loc B (aG m) 214,.loc Y (bG s As cA) 124,.loc Z jd 214]:=S5.del 3;clear S5 iM dY;go_wp2_with fail
        go_roundw
        case rel=>exact ⟨k + 1,m,by go_num,by omega,Hm,iU,S6⟩
        case measure=>simp [intOf];omega
       ·have iU:Hid (dS p x (r0.drop (k + 1))=g):=by
         have h:=dY.out;rw [if_pos iM.out] at h;exact h.symm
        have zA:=(S5.lv 3 rfl).all;have m0:=(S5.lv 0 rfl).all;have S6:Mem w _ [.loc B (aG x) 214,.loc Y (bG s As cA) 124,.loc Z jd 214]:=(S5.zB x).del 3;clear S5 iM dY;go_wp2_with fail
        go_roundw
        case rel=>exact ⟨k + 1,x,by go_num,by omega,Hx,iU,S6⟩
        case measure=>simp [intOf];omega
      ·have e4:(a==b)=false:=by simpa using h4
       have zC:Hid (p x.q m.q=false):=by show _=_;rw [iM.out,e3,decide_eq_false h4];rfl
       have iM:=zC;have S5:=S4;clear S4 y0 zA m0 zC h3 h4;have y0:=(S5.lv 1 rfl).all;have iU:Hid (dS p m (r0.drop (k + 1))=g):=by
        have h:=dY.out;rw [if_neg (by rw [iM.out];decide)] at h;exact h.symm
       have S6:Mem w _ [.loc B (aG m) 214,.loc Y (bG s As cA) 124,.loc Z jd 214]:=S5.del 3;clear S5 iM dY;go_wp2_with fail
       go_roundw
       case rel=>exact ⟨k + 1,m,by go_num,by omega,Hm,iU,S6⟩
       case measure=>simp [intOf];omega
   ·obtain rfl:k=n1:=by omega
    have Hmg:Hid (m=g):=by
     show _=_;have h:=LH.out;rw [List.drop_of_length_le (by have:=iT.out;omega)] at h;exact h
    have m0:=(T.lv 0 rfl).all;have z0:=(T.lv 2 rfl).all;have T9:Mem w wr [.loc Z jd 214,.loc B (aG m) 214,.loc Y (bG s As cA) 124]:=T.perm (List.Perm.trans (.cons _ (List.Perm.swap _ _ _)) (List.Perm.swap _ _ _));have T10:=T9.zB m;clear T T9 LH;go_wp2_with fail
    exact bodyPost_ret (fK rfl rfl (ad1 (T10.lv 0 rfl))) rfl ⟨⟨m,by rw [Hmg.out];exact Hg.out,rfl⟩,T10.b⟩
theorem ad2 {l:List Srv}{k:Nat}{s:Srv}{nm:ByteArray}(hk:l[k]? =some s)(h:wL (l.take k) nm=none):((s.name.toList==nm.toList)=true→wL l nm=some s)∧((s.name.toList==nm.toList)=false→wL (l.take (k + 1)) nm=none):=by
 unfold wL at *;constructor
 ·intro e;have h1:l=l.take k++s::l.drop (k + 1):=by
   obtain ⟨hl,rfl⟩:=List.getElem?_eq_some_iff.1 hk;rw [← Zz hl,YK]
  rw [h1,List.find?_append,h,Option.none_or,List.find?_cons,e]
 ·intro e;rw [take_snoc hk,List.find?_append,h,Option.none_or,List.find?_cons,e];rfl
def ad3 (r:aP)(nm:ByteArray)(w:World)(e:Ending)(w':World):Prop :=
 ∃ (s:Srv) (As:Option Addr) (cA:Nat),e=.returned (.agg (bG s As cA))∧s.how=pz r nm∧s.srcs=pF r nm∧s.srcs.length≤1000000∧Sl fB (fun _=>False) w' As s.srcs∧Below w.heap.size w w'
theorem ad4 (r:aP)(K W S:Option Addr)(ck cw cs:Nat)(nm:ByteArray)(w:World)(hR:kN (fun _=>False) w r K W S)(hsl:r.aX.length≤1000)(hss:∀ s∈r.aX,s.srcs.length≤1000000) :
  Calls Tryz.prog 135 #[.agg (aN r K ck W cw S cs),.string nm] w (ad3 r nm w):=by
 obtain ⟨Y,hY⟩:∃ Y,Y=w.heap.size:=⟨_,rfl⟩;have T0:Mem w (w.alloc (.cells (aN r K ck W cw S cs) 29)) [.loc Y (aN r K ck W cw S cs) 29]:=(Mem.start w).newAt _ 29 Y hY;have T:Mem w ((w.alloc (.cells (aN r K ck W cw S cs) 29)).alloc (.cells #[.string ⟨#[]⟩,.int .i64 0,.slice none 0 0] 124)) [.loc Y (aN r K ck W cw S cs) 29,.loc (Y + 1) #[.string ⟨#[]⟩,.int .i64 0,.slice none 0 0] 124]:=T0.newAt _ 124 (Y + 1) (by rw [hY,World.size_alloc]);have EU:=Z9 (fun w' (h:Below w.heap.size w w')=>(hR.aK h).sv);have G9:=Z9 hss;clear hR hss T0;go_enter Tryz.func135,Tryz.ntmps135
 go_upto_region 1 with fail
 rw [← hY];clear hY;generalize (w.alloc (.cells (aN r K ck W cw S cs) 29)).alloc (.cells #[.string ⟨#[]⟩,.int .i64 0,.slice none 0 0] 124)=w1 at *;obtain ⟨Z,hZ⟩:∃ Z,Z=Y + 1:=⟨_,rfl⟩;rw [← hZ] at T ⊢;clear hZ;have y0:=(T.lv 0 rfl).all;go_wp2_with fail
 go_loopw [10] (fun i wr=>∃ k:Nat,i=.int .i64 k∧k≤r.aX.length∧Hid (wL (r.aX.take k) nm=none)∧Mem w wr [.loc Y (aN r K ck W cw S cs) 29,.loc Z #[.string ⟨#[]⟩,.int .i64 0,.slice none 0 0] 124]) (fun i _=>r.aX.length - (intOf i).toNat)
 case atStart=>exact ⟨0,rfl,ZN _,rfl,T⟩
 case round =>
  clear T y0;obtain ⟨k,rfl,hk,Hno,T⟩:=hrel;by_cases hlt:k < r.aX.length
  ·obtain ⟨s,hs⟩:∃ s,r.aX[k]? =some s:=⟨_,Z8 hlt⟩;obtain ⟨bs,os,As,cA,rfl,hbs,d0,d1,d2,_,hsr⟩:=(EU.out w (ZX _ _)).srv k s hs;have hcl:=fun (p:Addr) (hp:p.block < w.heap.size)=>T.b.cell hp;rw [← hcl _ hbs] at d0 d1 d2;clear hcl;have dY:=Z9 (ad2 hs Hno.out);have Hsm:=Z9 (G9.out s (Z7 hs));have PX:=Z9 (fun w' (h:Below w.heap.size w w')=>hsr.aK h);obtain ⟨X,hX⟩:∃ X,X=wr.heap.size:=⟨_,rfl⟩;have S1:Mem w (wr.alloc (.cells (bG s As cA) 124)) [.loc Y (aN r K ck W cw (some ⟨bs,os,none⟩) cs) 29,.loc Z #[.string ⟨#[]⟩,.int .i64 0,.slice none 0 0] 124,.loc X (bG s As cA) 124]:=T.newAt (bG s As cA) 124 X hX;clear hs hsr Hno;go_upto_region 4 with fail
   rw [← hX];clear hX T d0 d1 d2 hbs;generalize wr.alloc (.cells (bG s As cA) 124)=w2 at *;have x0:=(S1.lv 2 rfl).all;obtain ⟨be,hbe⟩:∃ be,(s.name.toList==nm.toList)=be:=⟨_,rfl⟩;rw [hbe] at dY;cases be
   ·have LJ:=Z9 (dY.out.2 rfl);have S2:Mem w w2 [.loc Y (aN r K ck W cw (some ⟨bs,os,none⟩) cs) 29,.loc Z #[.string ⟨#[]⟩,.int .i64 0,.slice none 0 0] 124]:=S1.del 2;clear dY S1;go_wp2_with fail
    go_roundw
    case rel=>exact ⟨k + 1,by go_num,by omega,LJ,S2⟩
    case measure=>simp [intOf];omega
   ·have Ci:=Z9 (dY.out.1 rfl);have z0:=(S1.lv 1 rfl).all;have S3:Mem w _ [.loc Y (aN r K ck W cw (some ⟨bs,os,none⟩) cs) 29,.loc Z (bG s As cA) 124,.loc X (bG s As cA) 124]:=((S1.set 1 0 (.string s.name) rfl).set 1 1 (.int .i64 s.how) rfl).set 1 2 (.slice As s.srcs.length cA) rfl;clear dY S1;go_wp2_with fail
    refine bodyPost_ret (fK rfl rfl (Wv (S3.lv 1 rfl))) rfl ⟨s,As,cA,rfl,?_,?_,Hsm.out,PX.out _ S3.b,S3.b⟩
    ·unfold pz;rw [Ci.out]
    ·unfold pF;rw [Ci.out]
  ·obtain rfl:k=r.aX.length:=by omega
   have LJ:Hid (wL r.aX nm=none):=by
    have h:=Hno.out;rw [Zp] at h;exact h
   have z0:=(T.lv 1 rfl).all;have S3:Mem w _ [.loc Y (aN r K ck W cw S cs) 29,.loc Z #[.string nm,.int .i64 1,.slice none 0 0] 124]:=((T.set 1 0 (.string nm) rfl).set 1 1 (.int .i64 1) rfl).set 1 2 (.slice none 0 0) rfl;clear T Hno;go_wp2_with fail
   refine bodyPost_ret (fK rfl rfl (Wv (S3.lv 1 rfl))) rfl ⟨⟨nm,1,[]⟩,none,0,rfl,?_,?_,by simp,Sl.nil,S3.b⟩
   ·unfold pz;rw [LJ.out]
   ·unfold pF;rw [LJ.out]
end
end Go.Proofs.YtmkkppknaikjjaaGreatDoor
