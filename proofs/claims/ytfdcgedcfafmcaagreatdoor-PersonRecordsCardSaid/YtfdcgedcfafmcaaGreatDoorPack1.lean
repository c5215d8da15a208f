/- Several texts in one: RScore, RSurv. -/
import Derived.Test.YtfdcgedcfafmcaaGreatDoorPackH
import Derived.Test.YtfdcgedcfafmcaaGreatDoorPackV
/- handref2: when one told value is later than another; what it scores. -/
namespace Go.Proofs.YtfdcgedcfafmcaaGreatDoor
section
open Go Go.RowKit
def scrC (how:Int)(srcs:List ByteArray)(all:List Tc)(x:Tc):Int :=
 if how=3 then (if x.v.k=1 then lenMs x else 0)
 else if how=4 then cntMs all x
 else if how=5 then srcMs srcs x
 else if how=6∨how=7 then (if x.v.k=1 then -1152921504606846976 else if how=7 then -x.v.n else x.v.n)
 else 0
theorem latP_gt {a b:Tc}(h:b.at' < a.at'):latP a b=true:=by
 have e:Lib.compareInt a.at' b.at'=1:=by
  unfold Lib.compareInt;rw [if_neg (show ¬ a.at' < b.at' by omega),if_pos h]
 unfold latP latC;rw [e];rfl
theorem latP_lt {a b:Tc}(h:a.at' < b.at'):latP a b=false:=by
 have e:Lib.compareInt a.at' b.at'=-1:=by
  unfold Lib.compareInt;rw [if_pos h]
 unfold latP latC;rw [e];rfl
theorem latP_eq {a b:Tc}(h:a.at'=b.at'):latP a b=decide (b.no < a.no):=by
 have e:Lib.compareInt a.at' b.at'=0:=by
  unfold Lib.compareInt;rw [if_neg (show ¬ a.at' < b.at' by omega),if_neg (show ¬ a.at' > b.at' by omega)]
 unfold latP latC;rw [e,if_neg (by decide)];unfold Lib.compareInt;by_cases h1:a.no < b.no
 ·simp [h1];omega
 ·by_cases h2:b.no < a.no
  ·simp [h1,h2]
  ·simp [h1,h2]
set_option maxHeartbeats 2000000 in
theorem rlat_any (a b:Tld)(w:World):Calls Tryz.prog 130 #[.agg (tlCs a),.agg (tlCs b)] w fun e w'=>e=.returned (.bool (latP a.q b.q))∧Below w.heap.size w w':=by
 obtain ⟨X,hX⟩:∃ X,X=w.heap.size:=⟨_,rfl⟩;have T0:Mem w (w.alloc (.cells (tlCs a) 128)) [.loc X (tlCs a) 128]:=(Mem.start w).newAt _ 128 X hX;have T:Mem w _ [.loc X (tlCs a) 128,.loc (X + 1) (tlCs b) 128]:=T0.newAt (tlCs b) 128 (X + 1) (by rw [hX,World.size_alloc]);have Hb:=Lib.hid T.b;obtain ⟨R,HR⟩:∃ R,Hid (latP a.q b.q=R):=⟨_,Lib.hid rfl⟩;rw [HR.out];clear T0
 go_enter Tryz.func130,Tryz.ntmps130
 go_upto_region 1 with fail
 rw [← hX];clear hX;generalize (w.alloc (.cells (tlCs a) 128)).alloc (.cells (tlCs b) 128)=w1 at *;have l0:=(T.lv 0 rfl).all;have l1:=(T.lv 1 rfl).all;by_cases h1:b.q.at' < a.q.at'
 ·have Hr:Hid (true=R):=by show _=_;rw [← HR.out,latP_gt h1]
  clear HR T
  go_wp2_with fail
  go_ret
  exact ⟨by rw [← Hr.out];first | rfl | simp,Hb.out⟩
 ·by_cases h2:a.q.at'=b.q.at'
  ·have Hr:Hid (decide (b.q.no < a.q.no)=R):=by show _=_;rw [← HR.out,latP_eq h2]
   by_cases h3:b.q.no < a.q.no
   ·rw [decide_eq_true h3] at Hr;clear HR T
    go_wp2_with fail
    go_ret
    exact ⟨by rw [← Hr.out];first | rfl | simp,Hb.out⟩
   ·rw [decide_eq_false h3] at Hr;clear HR T
    go_wp2_with fail
    go_ret
    exact ⟨by rw [← Hr.out];first | rfl | simp,Hb.out⟩
  ·have Hr:Hid (false=R):=by show _=_;rw [← HR.out,latP_lt (by omega)]
   clear HR T
   go_wp2_with fail
   go_ret
   exact ⟨by rw [← Hr.out];first | rfl | simp,Hb.out⟩
theorem pts_slice {xs:List Int}{v:Value}{w:World}{B:Nat}(h:w.ownsRow B 3 1 v xs.length (xs.map (Value.int .i64))):∃ A c,v=.slice A xs.length c:=by
 rcases (Rd.ofOwn h).2 with ⟨x,c,rfl,h0⟩ | ⟨blk,off,cap,rfl,_⟩
 ·exact ⟨x,c,by rw [h0]⟩
 ·exact ⟨_,cap,rfl⟩
theorem bytes_inj {a b:ByteArray}(h:a.toList=b.toList):a=b:=by
 rw [ByteArray.toList_eq,ByteArray.toList_eq] at h;cases a;cases b
 simp only [ByteArray.mk.injEq]
 exact Array.toList_inj.1 h
theorem vt_cases (a b:Vt):(a=b∧a.k=b.k∧a.t=b.t∧a.n=b.n)∨(a≠b∧(a.k≠b.k∨(a.k=b.k∧a.t.toList≠b.t.toList)∨(a.k=b.k∧a.t.toList=b.t.toList∧a.n≠b.n))):=by
 by_cases h:a=b
 ·subst h;exact .inl ⟨rfl,rfl,rfl,rfl⟩
 ·refine .inr ⟨h,?_⟩;by_cases e1:a.k=b.k
  ·by_cases e2:a.t.toList=b.t.toList
   ·refine .inr (.inr ⟨e1,e2,fun e3=>h ?_⟩);have e4:a.t=b.t:=bytes_inj e2;cases a
    cases b
    simp only at e1 e3 e4
    subst e1 e3 e4;rfl
   ·exact .inr (.inl ⟨e1,e2⟩)
  ·exact .inl e1
theorem cnt_snoc {xs:List Tld}{k:Nat}{y:Tld}(x:Tc)(h:xs[k]? =some y):cntMs ((xs.take (k + 1)).map Tld.q) x=cntMs ((xs.take k).map Tld.q) x + (if y.q.v=x.v then 1 else 0):=by
 unfold cntMs;rw [take_snoc h,List.map_append,List.filter_append,List.length_append];by_cases e:y.q.v=x.v <;> simp [e]
set_option maxHeartbeats 8000000 in
set_option maxRecDepth 100000 in
theorem score_any (N N2:Nat→Prop)(s:Srv)(As:Option Addr)(cA:Nat)(x:Tld)(A:Option Addr)(all:List Tld)(n c:Nat)(w:World)(hs2:Sl rStr N2 w As s.srcs)(hsl:s.srcs.length≤1000000)(hS:Sl rTld N w A all)(hn:n=all.length)(hl:all.length≤1000000)
  (hok:x.q.v.t.size≤1000000∧-4611686018427387904≤x.q.v.n∧x.q.v.n≤4611686018427387904) (hU:Tabs w) :
  Calls Tryz.prog 129 #[.agg (svCs s As cA),.agg (tlCs x),.slice A n c] w fun e w'=>e=.returned (.int .i64 (scrC s.how s.srcs (all.map Tld.q) x.q))∧Below w.heap.size w w':=by
 obtain ⟨R,HR⟩:∃ R,Hid (scrC s.how s.srcs (all.map Tld.q) x.q=R):=⟨_,Lib.hid rfl⟩;rw [HR.out];obtain ⟨Y,hY⟩:∃ Y,Y=w.heap.size:=⟨_,rfl⟩;have T0:Mem w (w.alloc (.cells (svCs s As cA) 131)) [.loc Y (svCs s As cA) 131]:=(Mem.start w).newAt _ 131 Y hY;have T:Mem w _ [.loc Y (svCs s As cA) 131,.loc (Y + 1) (tlCs x) 128]:=T0.newAt (tlCs x) 128 (Y + 1) (by rw [hY,World.size_alloc]);have HS:=Lib.hid (fun w' (h:Below w.heap.size w w')=>hS.keepB h);have HS2:=Lib.hid (fun w' (h:Below w.heap.size w w')=>hs2.keepB h);have HU:=Lib.hid (fun w' (h:Below w.heap.size w w')=>Utf8Tabs_below hU h);have Hn:=Lib.hid hn;have Hsz:=Lib.hid hok.1;have hnum:=hok.2;have hnl:n≤1000000:=by omega
 clear hs2 hS hU hok hl hn T0
 go_enter Tryz.func129,Tryz.ntmps129
 go_upto_region 1 with fail
 rw [← hY];clear hY;generalize (w.alloc (.cells (svCs s As cA) 131)).alloc (.cells (tlCs x) 128)=w1 at *;obtain ⟨X,hX⟩:∃ X,X=Y + 1:=⟨_,rfl⟩;rw [← hX] at T ⊢;clear hX;have l0:=(T.lv 0 rfl).all;have l1:=(T.lv 1 rfl).all;have Hb:=Lib.hid T.b;by_cases h3:s.how=3
 ·have e3:(s.how==3)=true:=by simpa using h3
  by_cases hk:x.q.v.k=1
  ·have ek:(x.q.v.k==1)=true:=by simpa using hk
   have Hp:=Lib.hid (refpoints_any x.q.v.t w1 Hsz.out (HU.out w1 T.b));have hrc:=runeCount_pts x.q.v.t;have Hr:Hid (((pts x.q.v.t.size x.q.v.t).length:Int)=R):=by
    show _=_;rw [← HR.out,hrc];unfold scrC;rw [if_pos h3,if_pos hk];rfl
   generalize pts x.q.v.t.size x.q.v.t=ps at *;clear hrc h3 hk HR
   go_wp2_with fail
   ((with_reducible refine (Hp.out).mono ?_);rintro e w2 ⟨v,rfl,hv,hl2⟩)
   obtain ⟨A9,c9,rfl⟩:=pts_slice hv;have Hb2:=Lib.hid (T.below hl2).b;clear hv hl2 Hp l0 l1 T
   go_wp2_with fail
   go_ret
   exact ⟨ret_i Hr.out,Hb2.out⟩
  ·have ek:(x.q.v.k==1)=false:=by simpa using hk
   have Hr:Hid ((0:Int)=R):=by
    show _=_;rw [← HR.out];unfold scrC;rw [if_pos h3,if_neg hk]
   clear h3 hk HR T
   go_wp2_with fail
   go_ret
   exact ⟨ret_i Hr.out,Hb.out⟩
 have e3:(s.how==3)=false:=by simpa using h3
 by_cases h4:s.how=4
 ·have e4:(s.how==4)=true:=by simpa using h4
  have Hr:Hid (cntMs (all.map Tld.q) x.q=R):=by
   show _=_;rw [← HR.out];unfold scrC;rw [if_neg h3,if_pos h4]
  clear HR h3 h4;clear l0 l1;have l0:=(T.lv 0 rfl).all
  go_upto_region 7 with fail
  clear l0
  go_wp2_with fail
  go_loopw [7,28] (fun nv ix wr=>∃ (k:Nat) (m:Int),k≤n∧ix=.int .i64 k∧nv=.int .i64 m∧Hid (m=cntMs ((all.take k).map Tld.q) x.q)∧Hid (0≤m∧m≤k)∧Mem w wr [.loc Y (svCs s As cA) 131,.loc X (tlCs x) 128]) (fun _ ix _=>n - (intOf ix).toNat)
  case atStart=>exact ⟨0,0,Nat.zero_le _,rfl,rfl,rfl,⟨Int.le_refl _,Int.le_refl _⟩,T⟩
  case round =>
   clear T;obtain ⟨k,m,hk,rfl,rfl,Hm,Hm2,T⟩:=hrel;by_cases hlt:k < n
   ·obtain ⟨y,hy⟩:∃ y,all[k]? =some y:=⟨_,List.getElem?_eq_getElem (by have:=Hn.out;omega)⟩;obtain ⟨bt,ot,rfl,hbt,d0,d1,d2,d3,d4,d5,d6,d7⟩:=(HS.out wr T.b).tld k y hy;have Hsn:=Lib.hid (cnt_snoc x.q hy);obtain ⟨W9,hW⟩:∃ W9,W9=wr.heap.size:=⟨_,rfl⟩;have S4:Mem w (wr.alloc (.cells (tlCs y) 128)) [.loc Y (svCs s As cA) 131,.loc X (tlCs x) 128,.loc W9 (tlCs y) 128]:=T.newAt (tlCs y) 128 W9 hW;clear hy
    go_upto_region 10 with fail
    rw [← hW];clear hW T d0 d1 d2 d3 d4 d5 d6 d7 hbt;generalize wr.alloc (.cells (tlCs y) 128)=w8 at *;have l1:=(S4.lv 1 rfl).all;have l2:=(S4.lv 2 rfl).all;have S5:Mem w w8 [.loc Y (svCs s As cA) 131,.loc X (tlCs x) 128]:=S4.del 2;clear S4;have hmb:=Hm2.out;have hwr:IntKind.i64.wrap (m + 1)=m + 1:=IntWalk.i64_in _ (by omega);rcases vt_cases y.q.v x.q.v with ⟨he,e1,e2,e3⟩ | ⟨hne,hd⟩
    ·have Hy2:Hid (m + 1=cntMs ((all.take (k + 1)).map Tld.q) x.q):=by
      show _=_;rw [Hsn.out,if_pos he,← Hm.out]
     have Hy3:Hid (0≤m + 1∧m + 1≤((k + 1:Nat):Int)):=by show _∧_;omega
     clear he Hsn Hm Hm2 hmb
     go_wp2_with fail
     go_roundw
     case rel=>exact ⟨k + 1,m + 1,by omega,by go_num,by first | rfl | rw [hwr],Hy2,Hy3,S5⟩
     case measure=>simp [intOf];omega
    ·have Hy2:Hid (m=cntMs ((all.take (k + 1)).map Tld.q) x.q):=by
      show _=_;rw [Hsn.out,if_neg hne,Int.add_zero,← Hm.out]
     have Hy3:Hid (0≤m∧m≤((k + 1:Nat):Int)):=by show _∧_;omega
     clear hne Hsn Hm Hm2 hmb hwr;rcases hd with e1 | ⟨e1,e2⟩ | ⟨e1,e2,e3⟩
     ·go_wp2_with fail
      go_roundw
      case rel=>exact ⟨k + 1,m,by omega,by go_num,rfl,Hy2,Hy3,S5⟩
      case measure=>simp [intOf];omega
     ·go_wp2_with fail
      go_roundw
      case rel=>exact ⟨k + 1,m,by omega,by go_num,rfl,Hy2,Hy3,S5⟩
      case measure=>simp [intOf];omega
     ·go_wp2_with fail
      go_roundw
      case rel=>exact ⟨k + 1,m,by omega,by go_num,rfl,Hy2,Hy3,S5⟩
      case measure=>simp [intOf];omega
   ·obtain rfl:k=n:=by omega
    have Hr2:Hid (m=R):=by
     show _=_;rw [← Hr.out,Hm.out,List.take_of_length_le (by have:=Hn.out;omega)]
    have Hb9:=Lib.hid T.b;clear T Hm Hm2
    go_wp2_with fail
    go_ret
    exact ⟨ret_i Hr2.out,Hb9.out⟩
 have e4:(s.how==4)=false:=by simpa using h4
 by_cases h5:s.how=5
 ·have e5:(s.how==5)=true:=by simpa using h5
  have Hix:=Lib.hid (indexS_any N2 As s.srcs cA x.q.src w1 (HS2.out w1 T.b) hsl);have hrg:=ixS_rng s.srcs x.q.src;have Hr:Hid (srcMs s.srcs x.q=R):=by
   show _=_;rw [← HR.out];unfold scrC;rw [if_neg h3,if_neg h4,if_pos h5]
  unfold srcMs at Hr;obtain ⟨ix,hix⟩:∃ ix,ixS s.srcs x.q.src=ix:=⟨_,rfl⟩;rw [hix] at Hix hrg Hr;clear HR h3 h4 h5 hix T
  go_wp2_with fail
  ((with_reducible refine (Hix.out).mono ?_);rintro e _ ⟨rfl,rfl⟩)
  by_cases h:0≤ix
  ·rw [if_pos h] at Hr;have hwr:IntKind.i64.wrap (-ix)=-ix:=by simp [IntKind.wrap,IntKind.bits,IntKind.signed];omega
   go_wp2_with fail
   go_ret
   exact ⟨by first | exact ret_i Hr.out | (rw [hwr];exact ret_i Hr.out),Hb.out⟩
  ·rw [if_neg h] at Hr;have hwr:IntKind.i64.wrap (-(s.srcs.length:Int))=-(s.srcs.length:Int):=by simp [IntKind.wrap,IntKind.bits,IntKind.signed];omega
   go_wp2_with fail
   go_ret
   exact ⟨by first | exact ret_i Hr.out | (rw [hwr];exact ret_i Hr.out),Hb.out⟩
 have e5:(s.how==5)=false:=by simpa using h5
 by_cases h67:s.how=6∨s.how=7
 ·by_cases hk:x.q.v.k=1
  ·have ek:(x.q.v.k==1)=true:=by simpa using hk
   have Hr:Hid ((-1152921504606846976:Int)=R):=by
    show _=_;rw [← HR.out];unfold scrC;rw [if_neg h3,if_neg h4,if_neg h5,if_pos h67,if_pos hk]
   clear HR hk T;rcases h67 with h | h
   ·have e6:(s.how==6)=true:=by simpa using h
    clear h3 h4 h5 h
    go_wp2_with fail
    go_ret
    exact ⟨ret_i Hr.out,Hb.out⟩
   ·have e6:(s.how==6)=false:=by rw [h];rfl
    have e7:(s.how==7)=true:=by simpa using h
    clear h3 h4 h5 h
    go_wp2_with fail
    go_ret
    exact ⟨ret_i Hr.out,Hb.out⟩
  ·have ek:(x.q.v.k==1)=false:=by simpa using hk
   have Hr:Hid ((if s.how=7 then -x.q.v.n else x.q.v.n)=R):=by
    show _=_;rw [← HR.out];unfold scrC;rw [if_neg h3,if_neg h4,if_neg h5,if_pos h67,if_neg hk]
   clear HR hk T;rcases h67 with h | h
   ·have e6:(s.how==6)=true:=by simpa using h
    have e7:(s.how==7)=false:=by rw [h];rfl
    rw [if_neg (by rw [h];decide)] at Hr;clear h3 h4 h5 h
    go_wp2_with fail
    go_ret
    exact ⟨ret_i Hr.out,Hb.out⟩
   ·have e6:(s.how==6)=false:=by rw [h];rfl
    have e7:(s.how==7)=true:=by simpa using h
    rw [if_pos h] at Hr;have hwr:IntKind.i64.wrap (-x.q.v.n)=-x.q.v.n:=by simp [IntKind.wrap,IntKind.bits,IntKind.signed];omega
    clear h3 h4 h5 h
    go_wp2_with fail
    go_ret
    exact ⟨by first | exact ret_i Hr.out | (rw [hwr];exact ret_i Hr.out),Hb.out⟩
 ·have e6:(s.how==6)=false:=by simpa using fun e=>h67 (.inl e)
  have e7:(s.how==7)=false:=by simpa using fun e=>h67 (.inr e)
  have Hr:Hid ((0:Int)=R):=by
   show _=_;rw [← HR.out];unfold scrC;rw [if_neg h3,if_neg h4,if_neg h5,if_neg h67]
  clear h3 h4 h5 h67 HR T
  go_wp2_with fail
  go_ret
  exact ⟨ret_i Hr.out,Hb.out⟩
end
section
open Go Go.RowKit
def betR (how:Int)(srcs:List ByteArray)(all:List Tc)(x m:Tc):Bool :=
 if how=2 then latP m x else decide (scrC how srcs all m < scrC how srcs all x) || (decide (scrC how srcs all x=scrC how srcs all m) && latP x m)
def survR (how:Int)(srcs:List ByteArray)(x0:Tc)(r0:List Tc):Tc:=pick (betR how srcs (x0::r0)) x0 r0
theorem loadSv {w:World}{X:Nat}{a b c:Value}(h:LV w X #[a,b,c] 131):(Instr.loadAt 131 (.pointer (some ⟨X,0,none⟩))).run Tryz.prog w=.ok (.agg #[a,b,c]) w:=by
 have c0:=h.all
 go_simp
theorem loadSvV {w:World}{X:Nat}{a b c:Value}(h:LV w X #[a,b,c] 131):(loadVar 131 ⟨X,0,none⟩).run Tryz.prog w=.ok (.agg #[a,b,c]) w:=by
 have c0:=h.all
 go_simp
theorem Sl.tldTail {N:Nat→Prop}{w:World}{b o:Nat}{x0:Tld}{r0:List Tld}(h:Sl rTld N w (some ⟨b,o,none⟩) (x0::r0)):Sl rTld N w (some ⟨b,o + 8,none⟩) r0:=fun i x hi=>by
 obtain ⟨blk,off,l,e1,h1,h2,h3,h4⟩:=h (i + 1) x (by simpa using hi);simp only [Option.some.injEq,Addr.mk.injEq,and_true] at e1
 obtain ⟨rfl,rfl⟩:=e1;refine ⟨b,o + 8,l,rfl,h1,h2,h3,fun j v hj=>?_⟩;have h5:=h4 j v hj;have e:o + (i + 1) * rTld.size + j=o + 8 + i * rTld.size + j:=by
  show o + (i + 1) * 8 + j=o + 8 + i * 8 + j;omega
 rw [e] at h5;exact h5
set_option maxHeartbeats 16000000 in
set_option maxRecDepth 100000 in
theorem survivorR_any (N N2:Nat→Prop)(s:Srv)(As:Option Addr)(cA:Nat)(A:Option Addr)(x0:Tld)(r0:List Tld)(n c:Nat)(w:World)(hs2:Sl rStr N2 w As s.srcs)(hsl:s.srcs.length≤1000000)(hS:Sl rTld N w A (x0::r0))(hn:n=(x0::r0).length)(hc:n≤c)(hl:(x0::r0).length≤1000000)
  (hok:∀ a∈x0::r0,a.q.v.t.size≤1000000∧-4611686018427387904≤a.q.v.n∧a.q.v.n≤4611686018427387904) (hU:Tabs w) :
  Calls Tryz.prog 66 #[.agg (svCs s As cA),.slice A n c] w fun e w'=>(∃ g:Tld,g.q=survR s.how s.srcs x0.q (r0.map Tld.q)∧e=.returned (.agg (tlCs g)))∧Below w.heap.size w w':=by
 obtain ⟨n1,rfl⟩:∃ n1,n=n1 + 1:=⟨r0.length,hn⟩;have Hn1:Hid (n1=r0.length):=by show _=_;simp only [List.length_cons] at hn;omega
 have hnl:n1≤1000000:=by have:=Hn1.out;simp only [List.length_cons] at hl;omega
 obtain ⟨p,hp⟩:∃ p,betR s.how s.srcs (x0.q::r0.map Tld.q)=p:=⟨_,rfl⟩;obtain ⟨g,hg⟩:∃ g,pickT p x0 r0=g:=⟨_,rfl⟩;have Hg:Hid (g.q=survR s.how s.srcs x0.q (r0.map Tld.q)):=by
  show _=_;rw [← hg,pickT_q];unfold survR;rw [hp]
 have Hgp:Hid (pickT p x0 r0=g):=hg;obtain ⟨sc,hsc⟩:∃ sc:Tc→Int,(fun x=>scrC s.how s.srcs (x0.q::r0.map Tld.q) x)=sc:=⟨_,rfl⟩;have Hp:Hid (∀ x m,p x m=if s.how=2 then latP m x else decide (sc m < sc x) || (decide (sc x=sc m) && latP x m)):=fun x m=>by rw [← hp,← hsc];rfl
 obtain ⟨Y,hY⟩:∃ Y,Y=w.heap.size:=⟨_,rfl⟩;have T0:Mem w (w.alloc (.cells (svCs s As cA) 131)) [.loc Y (svCs s As cA) 131]:=(Mem.start w).newAt _ 131 Y hY;have T:Mem w ((w.alloc (.cells (svCs s As cA) 131)).alloc (.cells tlZ 128)) [.loc Y (svCs s As cA) 131,.loc (Y + 1) tlZ 128]:=T0.newAt tlZ 128 (Y + 1) (by rw [hY,World.size_alloc]);have HS:=Lib.hid (fun w' (h:Below w.heap.size w w')=>hS.keepB h);have Hscore:Hid (∀ w' (a:Tld),a∈x0::r0→Below w.heap.size w w'→Calls Tryz.prog 129 #[.agg (svCs s As cA),.agg (tlCs a),.slice A (n1 + 1) c] w' fun e w''=>e=.returned (.int .i64 (sc a.q))∧Below w'.heap.size w' w''):=fun w' a ha h=>by
  have h1:=score_any N N2 s As cA a A (x0::r0) (n1 + 1) c w' (hs2.keepB h) hsl (hS.keepB h) hn hl (hok a ha) (Utf8Tabs_below hU h);rw [← hsc];exact h1
 have Hc:=Lib.hid hc;clear hs2 hS hok hl T0 hsc hp hg hn hU hc
 go_enter Tryz.func66,Tryz.ntmps66
 go_upto_region 1 with fail
 rw [← hY];clear hY;generalize (w.alloc (.cells (svCs s As cA) 131)).alloc (.cells tlZ 128)=w1 at *;obtain ⟨Z,hZ⟩:∃ Z,Z=Y + 1:=⟨_,rfl⟩;rw [← hZ] at T ⊢;clear hZ;obtain ⟨bt,ot,rfl,hbt,d0,d1,d2,d3,d4,d5,d6,d7⟩:=(HS.out w1 T.b).tld 0 x0 rfl;rw [Nat.zero_mul,Nat.add_zero] at d0 d1 d2 d3 d4 d5 d6 d7;obtain ⟨B,hB⟩:∃ B,B=w1.heap.size:=⟨_,rfl⟩;have T1:Mem w (w1.alloc (.cells (tlCs x0) 128)) [.loc B (tlCs x0) 128,.loc Y (svCs s As cA) 131,.loc Z tlZ 128]:=(T.newAt (tlCs x0) 128 B hB).front
 go_upto_region 2 with fail
 rw [← hB];clear hB T d0 d1 d2 d3 d4 d5 d6 d7 hbt;generalize w1.alloc (.cells (tlCs x0) 128)=w2 at *
 go_cut [14,15,16] (fun a b i wx=>∃ (A4:Option Addr) (c4:Nat),a=.slice A4 n1 c4∧b=.int .i64 n1∧i=.int .i64 0∧Hid (∀ w',Below w.heap.size w w'→Sl rTld N w' A4 r0)∧Mem w wx [.loc B (tlCs x0) 128,.loc Y (svCs s As cA) 131,.loc Z tlZ 128])
 case first =>
  by_cases hc1:c=1
  ·subst hc1;have hn0:n1=0:=by have:=Hc.out;omega
   subst hn0;have hr0:r0=[]:=by have:=Hn1.out;exact List.length_eq_zero_iff.1 this.symm
   have Hs:Hid (∀ w',Below w.heap.size w w'→Sl rTld N w' (some ⟨bt,ot,none⟩) r0):=fun w' _=>by rw [hr0];exact fun k x h=>by cases h
   clear hr0
   go_wp2_with fail
   go_meet
   exact ⟨_,_,rfl,rfl,rfl,Hs,T1⟩
  ·have Hs:Hid (∀ w',Below w.heap.size w w'→Sl rTld N w' (some ⟨bt,ot + 8,none⟩) r0):=fun w' h=>(HS.out w' h).tldTail
   go_wp2_with fail
   go_meet
   exact ⟨_,_,rfl,rfl,rfl,Hs,T1⟩
 case rest =>
  clear T1 Hc HS;obtain ⟨A4,c4,rfl,rfl,rfl,HS4,T⟩:=hcut;have Hxs:Hid (∀ a∈r0,a∈x0::r0):=fun a h=>List.mem_cons_of_mem _ h;have Hm0:Hid (x0∈x0::r0):=List.mem_cons_self ..;have Hst0:Hid (∀ (k:Nat) (x m:Tld),r0[k]? =some x→pickT p m (r0.drop k)=pickT p (if p x.q m.q then x else m) (r0.drop (k + 1))):=fun k x m h=>pickT_at h;have Hpk0:Hid (pickT p x0 (r0.drop 0)=g):=by rw [List.drop_zero];exact Hgp.out
  generalize wc=w3 at *
  go_wp2_with fail
  go_loopw [16] (fun i wr=>∃ (k:Nat) (m:Tld),i=.int .i64 k∧k≤n1∧Hid (m∈x0::r0)∧Hid (pickT p m (r0.drop k)=g)∧Mem w wr [.loc B (tlCs m) 128,.loc Y (svCs s As cA) 131,.loc Z tlZ 128]) (fun i _=>n1 - (intOf i).toNat)
  case atStart=>exact ⟨0,x0,rfl,Nat.zero_le _,Hm0,Hpk0,T⟩
  case round =>
   clear T Hm0 Hpk0;obtain ⟨k,m,rfl,hk,Hm,Hpk,T⟩:=hrel;by_cases hlt:k < n1
   ·obtain ⟨x,hx⟩:∃ x,r0[k]? =some x:=⟨_,List.getElem?_eq_getElem (by have:=Hn1.out;omega)⟩;obtain ⟨b4,o4,rfl,hb4,d0,d1,d2,d3,d4,d5,d6,d7⟩:=(HS4.out wr T.b).tld k x hx;have Hx:=Lib.hid (Hxs.out x (List.mem_of_getElem? hx));have Hst:=Lib.hid (Hst0.out k x m hx);rw [Hpk.out] at Hst;obtain ⟨W9,hW⟩:∃ W9,W9=wr.heap.size:=⟨_,rfl⟩;have S1:Mem w (wr.alloc (.cells (tlCs x) 128)) [.loc B (tlCs m) 128,.loc Y (svCs s As cA) 131,.loc Z tlZ 128,.loc W9 (tlCs x) 128]:=T.newAt (tlCs x) 128 W9 hW;clear hx Hpk
    go_upto_region 5 with fail
    rw [← hW];clear hW T d0 d1 d2 d3 d4 d5 d6 d7 hb4;generalize wr.alloc (.cells (tlCs x) 128)=w5 at *;refine wp_region_mix (fun w'=>LV w' Y (svCs s As cA) 131∧LV w' W9 (tlCs x) 128∧LV w' B (tlCs m) 128) [(true,0),(true,1),(true,2),(true,4),(true,5),(true,6),(false,3),(false,7),(true,8),(true,9)] (by kernel_rfl) (by kernel_rfl) (fun w' hd=>⟨(S1.below (hd.below _)).lv 1 rfl,(S1.below (hd.below _)).lv 3 rfl,(S1.below (hd.below _)).lv 0 rfl⟩) (fun KK hKK wd hd=>?_);have S2:=S1.below (hd.below _);clear hd S1
    repeat (refine mix_p rfl (fun K hK=>?_);go_simp;(try go_bits);(try simp (disch:=omega) only [if_pos]);(try simp (disch:=omega) only [if_neg]);(try simp (disch:=omega) only [dif_pos]);(try simp (disch:=omega) only [dif_neg]);(try go_simp);(refine hK _ ?_;clear hK K))
    refine mix_loadR (.agg (svCs s As cA)) rfl rfl rfl rfl (fun w' h=>loadSv h.1) ?_;refine mix_loadR (.agg (tlCs x)) rfl rfl rfl rfl (fun w' h=>loadTr h.2.1) ?_
    repeat (refine mix_p rfl (fun K hK=>?_);go_simp;(try go_bits);(try simp (disch:=omega) only [if_pos]);(try simp (disch:=omega) only [if_neg]);(try simp (disch:=omega) only [dif_pos]);(try simp (disch:=omega) only [dif_neg]);(try go_simp);(refine hK _ ?_;clear hK K))
    refine mix_loadR (.agg (svCs s As cA)) rfl rfl rfl rfl (fun w' h=>loadSv h.1) ?_;refine mix_loadR (.agg (tlCs m)) rfl rfl rfl rfl (fun w' h=>loadTr h.2.2) ?_
    repeat (refine mix_p rfl (fun K hK=>?_);go_simp;(try go_bits);(try simp (disch:=omega) only [if_pos]);(try simp (disch:=omega) only [if_neg]);(try simp (disch:=omega) only [dif_pos]);(try simp (disch:=omega) only [dif_neg]);(try go_simp);(refine hK _ ?_;clear hK K))
    refine mix_l rfl (fun K hK=>?_) ⟨S2.lv 1 rfl,S2.lv 3 rfl,S2.lv 0 rfl⟩;have H1:=Lib.hid (Hscore.out wd x Hx.out S2.b);obtain ⟨a,ha⟩:∃ a,sc x.q=a:=⟨_,rfl⟩;obtain ⟨b,hb⟩:∃ b,sc m.q=b:=⟨_,rfl⟩;rw [ha] at H1
    go_wp2_with fail
    ((with_reducible refine (H1.out).mono ?_);rintro e w6 ⟨rfl,hl6⟩)
    have S3:=S2.below hl6;clear hl6 S2 H1;have hC3:LV w6 Y (svCs s As cA) 131∧LV w6 W9 (tlCs x) 128∧LV w6 B (tlCs m) 128:=⟨S3.lv 1 rfl,S3.lv 3 rfl,S3.lv 0 rfl⟩
    go_wp2_with fail
    refine ⟨hC3,?_⟩;refine mix_l rfl (fun K hK=>?_) hC3;clear hC3;have H2:=Lib.hid (Hscore.out w6 m Hm.out S3.b);rw [hb] at H2
    go_wp2_with fail
    ((with_reducible refine (H2.out).mono ?_);rintro e w7 ⟨rfl,hl7⟩)
    have S4:=S3.below hl7;clear hl7 S3 H2;have hC4:LV w7 Y (svCs s As cA) 131∧LV w7 W9 (tlCs x) 128∧LV w7 B (tlCs m) 128:=⟨S4.lv 1 rfl,S4.lv 3 rfl,S4.lv 0 rfl⟩
    go_wp2_with fail
    refine ⟨hC4,?_⟩;clear hC4
    repeat (refine mix_p rfl (fun K hK=>?_);go_simp;(try go_bits);(try simp (disch:=omega) only [if_pos]);(try simp (disch:=omega) only [if_neg]);(try simp (disch:=omega) only [dif_pos]);(try simp (disch:=omega) only [dif_neg]);(try go_simp);(refine hK _ ?_;clear hK K))
    refine mix_nil ?_;simp only [Exit.then]
    refine hKK _ _ ?_;clear hKK KK;have Hpx:=Lib.hid (Hp.out x.q m.q);rw [ha,hb] at Hpx;clear ha hb;have y0:=(S4.lv 1 rfl).all;have x0':=(S4.lv 3 rfl).all;have m0:=(S4.lv 0 rfl).all;by_cases h2:s.how=2
    ·have e2:(s.how==2)=true:=by simpa using h2
     have f2:(s.how != 2)=false:=by rw [bne,e2];rfl
     rw [if_pos h2] at Hpx;have Hla:=Lib.hid (rlat_any m x w7);obtain ⟨lb,hlb⟩:∃ lb,latP m.q x.q=lb:=⟨_,rfl⟩;rw [hlb] at Hpx Hla;clear hlb h2
     go_wp2_with fail
     ((with_reducible refine (Hla.out).mono ?_);rintro e w8 ⟨rfl,hl8⟩)
     have S5:=S4.below hl8;clear S4 hl8 Hla y0 x0' m0;have y0:=(S5.lv 1 rfl).all;cases lb
     ·have Hm2:Hid (pickT p m (r0.drop (k + 1))=g):=by
       have h:=Hst.out;rw [if_neg (by rw [Hpx.out];decide)] at h;exact h.symm
      have S6:Mem w _ [.loc B (tlCs m) 128,.loc Y (svCs s As cA) 131,.loc Z tlZ 128]:=S5.del 3;clear S5 Hpx Hst
      go_wp2_with fail
      go_roundw
      case rel=>exact ⟨k + 1,m,by go_num,by omega,Hm,Hm2,S6⟩
      case measure=>simp [intOf];omega
     ·have Hm2:Hid (pickT p x (r0.drop (k + 1))=g):=by
       have h:=Hst.out;rw [if_pos Hpx.out] at h;exact h.symm
      have x0':=(S5.lv 3 rfl).all;have m0:=(S5.lv 0 rfl).all;have S6:Mem w _ [.loc B (tlCs x) 128,.loc Y (svCs s As cA) 131,.loc Z tlZ 128]:=(S5.setTl x).del 3;clear S5 Hpx Hst
      go_wp2_with fail
      go_roundw
      case rel=>exact ⟨k + 1,x,by go_num,by omega,Hx,Hm2,S6⟩
      case measure=>simp [intOf];omega
    ·have e2:(s.how==2)=false:=by simpa using h2
     have f2:(s.how != 2)=true:=by rw [bne,e2];rfl
     rw [if_neg h2] at Hpx;clear h2;by_cases h3:b < a
     ·have Hpy:Hid (p x.q m.q=true):=by show _=_;rw [Hpx.out,decide_eq_true h3];rfl
      have e3:decide (b < a)=true:=decide_eq_true h3;have Hpx:=Hpy;have S5:=S4;clear S4 y0 x0' m0 Hpy;have y0:=(S5.lv 1 rfl).all;have Hm2:Hid (pickT p x (r0.drop (k + 1))=g):=by
       have h:=Hst.out;rw [if_pos Hpx.out] at h;exact h.symm
      have x0':=(S5.lv 3 rfl).all;have m0:=(S5.lv 0 rfl).all;have S6:Mem w _ [.loc B (tlCs x) 128,.loc Y (svCs s As cA) 131,.loc Z tlZ 128]:=(S5.setTl x).del 3;clear S5 Hpx Hst
      go_wp2_with fail
      go_roundw
      case rel=>exact ⟨k + 1,x,by go_num,by omega,Hx,Hm2,S6⟩
      case measure=>simp [intOf];omega
     ·have e3:decide (b < a)=false:=decide_eq_false h3;by_cases h4:a=b
      ·have e4:(a==b)=true:=by simpa using h4
       have Hla:=Lib.hid (rlat_any x m w7);obtain ⟨lb,hlb⟩:∃ lb,latP x.q m.q=lb:=⟨_,rfl⟩;rw [hlb] at Hpx Hla;have Hpy:Hid (p x.q m.q=lb):=by show _=_;rw [Hpx.out,e3,decide_eq_true h4];cases lb <;> rfl
       replace Hpx:=Hpy;clear hlb h3 h4 Hpy
       go_wp2_with fail
       ((with_reducible refine (Hla.out).mono ?_);rintro e w8 ⟨rfl,hl8⟩)
       have S5:=S4.below hl8;clear S4 hl8 Hla y0 x0' m0;have y0:=(S5.lv 1 rfl).all;cases lb
       ·have Hm2:Hid (pickT p m (r0.drop (k + 1))=g):=by
         have h:=Hst.out;rw [if_neg (by rw [Hpx.out];decide)] at h;exact h.symm
        have S6:Mem w _ [.loc B (tlCs m) 128,.loc Y (svCs s As cA) 131,.loc Z tlZ 128]:=S5.del 3;clear S5 Hpx Hst
        go_wp2_with fail
        go_roundw
        case rel=>exact ⟨k + 1,m,by go_num,by omega,Hm,Hm2,S6⟩
        case measure=>simp [intOf];omega
       ·have Hm2:Hid (pickT p x (r0.drop (k + 1))=g):=by
         have h:=Hst.out;rw [if_pos Hpx.out] at h;exact h.symm
        have x0':=(S5.lv 3 rfl).all;have m0:=(S5.lv 0 rfl).all;have S6:Mem w _ [.loc B (tlCs x) 128,.loc Y (svCs s As cA) 131,.loc Z tlZ 128]:=(S5.setTl x).del 3;clear S5 Hpx Hst
        go_wp2_with fail
        go_roundw
        case rel=>exact ⟨k + 1,x,by go_num,by omega,Hx,Hm2,S6⟩
        case measure=>simp [intOf];omega
      ·have e4:(a==b)=false:=by simpa using h4
       have Hpy:Hid (p x.q m.q=false):=by show _=_;rw [Hpx.out,e3,decide_eq_false h4];rfl
       have Hpx:=Hpy;have S5:=S4;clear S4 y0 x0' m0 Hpy h3 h4;have y0:=(S5.lv 1 rfl).all;have Hm2:Hid (pickT p m (r0.drop (k + 1))=g):=by
        have h:=Hst.out;rw [if_neg (by rw [Hpx.out];decide)] at h;exact h.symm
       have S6:Mem w _ [.loc B (tlCs m) 128,.loc Y (svCs s As cA) 131,.loc Z tlZ 128]:=S5.del 3;clear S5 Hpx Hst
       go_wp2_with fail
       go_roundw
       case rel=>exact ⟨k + 1,m,by go_num,by omega,Hm,Hm2,S6⟩
       case measure=>simp [intOf];omega
   ·obtain rfl:k=n1:=by omega
    have Hmg:Hid (m=g):=by
     show _=_;have h:=Hpk.out;rw [List.drop_of_length_le (by have:=Hn1.out;omega)] at h;exact h
    have m0:=(T.lv 0 rfl).all;have z0:=(T.lv 2 rfl).all;have T9:Mem w wr [.loc Z tlZ 128,.loc B (tlCs m) 128,.loc Y (svCs s As cA) 131]:=T.perm (List.Perm.trans (.cons _ (List.Perm.swap _ _ _)) (List.Perm.swap _ _ _));have T10:=T9.setTl m;clear T T9 Hpk
    go_wp2_with fail
    exact bodyPost_ret (results_cell1 rfl rfl (loadTrV (T10.lv 0 rfl))) rfl ⟨⟨m,by rw [Hmg.out];exact Hg.out,rfl⟩,T10.b⟩
theorem srv_step {l:List Srv}{k:Nat}{s:Srv}{nm:ByteArray}(hk:l[k]? =some s)(h:srvAt (l.take k) nm=none):((s.name.toList==nm.toList)=true→srvAt l nm=some s)∧((s.name.toList==nm.toList)=false→srvAt (l.take (k + 1)) nm=none):=by
 unfold srvAt at *;constructor
 ·intro e;have h1:l=l.take k++s::l.drop (k + 1):=by
   obtain ⟨hl,rfl⟩:=List.getElem?_eq_some_iff.1 hk;rw [← List.drop_eq_getElem_cons hl,List.take_append_drop]
  rw [h1,List.find?_append,h,Option.none_or,List.find?_cons,e]
 ·intro e;rw [take_snoc hk,List.find?_append,h,Option.none_or,List.find?_cons,e];rfl
def GivesSurR (r:Rul)(nm:ByteArray)(w:World)(e:Ending)(w':World):Prop :=
 ∃ (s:Srv) (As:Option Addr) (cA:Nat),e=.returned (.agg (svCs s As cA))∧s.how=surHow r nm∧s.srcs=surSrc r nm∧s.srcs.length≤1000000∧Sl rStr (fun _=>False) w' As s.srcs∧Below w.heap.size w w'
set_option maxHeartbeats 4000000 in
set_option maxRecDepth 100000 in
theorem survivalR_any (r:Rul)(K W S:Option Addr)(ck cw cs:Nat)(nm:ByteArray)(w:World)(hR:RulIn (fun _=>False) w r K W S)(hsl:r.surv.length≤1000)(hss:∀ s∈r.surv,s.srcs.length≤1000000) :
  Calls Tryz.prog 67 #[.agg (ruCs r K ck W cw S cs),.string nm] w (GivesSurR r nm w):=by
 obtain ⟨Y,hY⟩:∃ Y,Y=w.heap.size:=⟨_,rfl⟩;have T0:Mem w (w.alloc (.cells (ruCs r K ck W cw S cs) 29)) [.loc Y (ruCs r K ck W cw S cs) 29]:=(Mem.start w).newAt _ 29 Y hY;have T:Mem w ((w.alloc (.cells (ruCs r K ck W cw S cs) 29)).alloc (.cells #[.string ⟨#[]⟩,.int .i64 0,.slice none 0 0] 131)) [.loc Y (ruCs r K ck W cw S cs) 29,.loc (Y + 1) #[.string ⟨#[]⟩,.int .i64 0,.slice none 0 0] 131]:=T0.newAt _ 131 (Y + 1) (by rw [hY,World.size_alloc]);have HSv:=Lib.hid (fun w' (h:Below w.heap.size w w')=>(hR.keepB h).sv);have Hss:=Lib.hid hss;clear hR hss T0
 go_enter Tryz.func67,Tryz.ntmps67
 go_upto_region 1 with fail
 rw [← hY];clear hY;generalize (w.alloc (.cells (ruCs r K ck W cw S cs) 29)).alloc (.cells #[.string ⟨#[]⟩,.int .i64 0,.slice none 0 0] 131)=w1 at *;obtain ⟨Z,hZ⟩:∃ Z,Z=Y + 1:=⟨_,rfl⟩;rw [← hZ] at T ⊢;clear hZ;have y0:=(T.lv 0 rfl).all
 go_wp2_with fail
 go_loopw [10] (fun i wr=>∃ k:Nat,i=.int .i64 k∧k≤r.surv.length∧Hid (srvAt (r.surv.take k) nm=none)∧Mem w wr [.loc Y (ruCs r K ck W cw S cs) 29,.loc Z #[.string ⟨#[]⟩,.int .i64 0,.slice none 0 0] 131]) (fun i _=>r.surv.length - (intOf i).toNat)
 case atStart=>exact ⟨0,rfl,Nat.zero_le _,rfl,T⟩
 case round =>
  clear T y0;obtain ⟨k,rfl,hk,Hno,T⟩:=hrel;by_cases hlt:k < r.surv.length
  ·obtain ⟨s,hs⟩:∃ s,r.surv[k]? =some s:=⟨_,List.getElem?_eq_getElem hlt⟩;obtain ⟨bs,os,As,cA,rfl,hbs,d0,d1,d2,_,hsr⟩:=(HSv.out w (Below.refl _ _)).srv k s hs;have hcl:=fun (p:Addr) (hp:p.block < w.heap.size)=>T.b.cell hp;rw [← hcl _ hbs] at d0 d1 d2;clear hcl;have Hst:=Lib.hid (srv_step hs Hno.out);have Hsm:=Lib.hid (Hss.out s (List.mem_of_getElem? hs));have Hsr:=Lib.hid (fun w' (h:Below w.heap.size w w')=>hsr.keepB h);obtain ⟨X,hX⟩:∃ X,X=wr.heap.size:=⟨_,rfl⟩;have S1:Mem w (wr.alloc (.cells (svCs s As cA) 131)) [.loc Y (ruCs r K ck W cw (some ⟨bs,os,none⟩) cs) 29,.loc Z #[.string ⟨#[]⟩,.int .i64 0,.slice none 0 0] 131,.loc X (svCs s As cA) 131]:=T.newAt (svCs s As cA) 131 X hX;clear hs hsr Hno
   go_upto_region 4 with fail
   rw [← hX];clear hX T d0 d1 d2 hbs;generalize wr.alloc (.cells (svCs s As cA) 131)=w2 at *;have x0:=(S1.lv 2 rfl).all;obtain ⟨be,hbe⟩:∃ be,(s.name.toList==nm.toList)=be:=⟨_,rfl⟩;rw [hbe] at Hst;cases be
   ·have Hno2:=Lib.hid (Hst.out.2 rfl);have S2:Mem w w2 [.loc Y (ruCs r K ck W cw (some ⟨bs,os,none⟩) cs) 29,.loc Z #[.string ⟨#[]⟩,.int .i64 0,.slice none 0 0] 131]:=S1.del 2;clear Hst S1
    go_wp2_with fail
    go_roundw
    case rel=>exact ⟨k + 1,by go_num,by omega,Hno2,S2⟩
    case measure=>simp [intOf];omega
   ·have Hat:=Lib.hid (Hst.out.1 rfl);have z0:=(S1.lv 1 rfl).all;have S3:Mem w _ [.loc Y (ruCs r K ck W cw (some ⟨bs,os,none⟩) cs) 29,.loc Z (svCs s As cA) 131,.loc X (svCs s As cA) 131]:=((S1.set 1 0 (.string s.name) rfl).set 1 1 (.int .i64 s.how) rfl).set 1 2 (.slice As s.srcs.length cA) rfl;clear Hst S1
    go_wp2_with fail
    refine bodyPost_ret (results_cell1 rfl rfl (loadSvV (S3.lv 1 rfl))) rfl ⟨s,As,cA,rfl,?_,?_,Hsm.out,Hsr.out _ S3.b,S3.b⟩
    ·unfold surHow;rw [Hat.out]
    ·unfold surSrc;rw [Hat.out]
  ·obtain rfl:k=r.surv.length:=by omega
   have Hno2:Hid (srvAt r.surv nm=none):=by
    have h:=Hno.out;rw [List.take_length] at h;exact h
   have z0:=(T.lv 1 rfl).all;have S3:Mem w _ [.loc Y (ruCs r K ck W cw S cs) 29,.loc Z #[.string nm,.int .i64 1,.slice none 0 0] 131]:=((T.set 1 0 (.string nm) rfl).set 1 1 (.int .i64 1) rfl).set 1 2 (.slice none 0 0) rfl;clear T Hno
   go_wp2_with fail
   refine bodyPost_ret (results_cell1 rfl rfl (loadSvV (S3.lv 1 rfl))) rfl ⟨⟨nm,1,[]⟩,none,0,rfl,?_,?_,by simp,Sl.nil,S3.b⟩
   ·unfold surHow;rw [Hno2.out]
   ·unfold surSrc;rw [Hno2.out]
end
end Go.Proofs.YtfdcgedcfafmcaaGreatDoor
