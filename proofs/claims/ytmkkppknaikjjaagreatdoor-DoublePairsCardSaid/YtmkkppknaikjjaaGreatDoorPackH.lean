/- Several texts in one: SurvC, DelTl, SurvP, SurvW, Survs. -/
import Derived.Test.YtmkkppknaikjjaaGreatDoorPackA
import Derived.Test.YtmkkppknaikjjaaGreatDoorPackN
import Derived.Test.YtmkkppknaikjjaaGreatDoorPackY
/- The measures of person.survivor. -/
set_option maxHeartbeats 16000000
set_option maxRecDepth 100000
open Go.Lib renaming hid→Z9
open List renaming getElem?_eq_getElem→Z8, mem_of_getElem?→Z7, length_append→Z4, getElem?_set_self→ZY, length_map→ZW, length_cons→ZV, length_set→ZU, length_take→ZR, map_append→ZP, length_nil→ZO, drop_eq_nil_of_le→ZJ, getElem?_eq_none→ZG, set_set→ZB, map_cons→Zt, take_length→Zp, set_append_right→YZ, filter_append→YJ, set_cons_zero→YH, drop_drop→YG
open Nat renaming le_refl→Z5, zero_le→ZN, lt_or_ge→YL
open Go.RowKit.Below renaming refl→ZX
namespace Go.Proofs.YtmkkppknaikjjaaGreatDoor
section
open Go Go.RowKit
def zu (x:Tc):Int:=Lib.runeCount x.v.t
def jR (l:List Tc)(x:Tc):Int:=((l.filter (fun y=>decide (y.v=x.v))).length:Int)
def xW (ss:List ByteArray)(s:ByteArray):Int:=Lib.idxOfS ss s
def xU (ss:List ByteArray)(x:Tc):Int:=if 0≤xW ss x.src then -(xW ss x.src) else -(ss.length:Int)
def uK (sg:Int)(x:Tc):Int:=sg * x.v.n
def jw (x:Tc):Bool:=x.v.k==1
theorem agM (a:aj)(w:World)(hs:a.q.v.t.size≤1000000):Calls Tryz.prog 260 #[.agg (aG a)] w fun e w'=>e=.returned (.int .i64 (zu a.q))∧Below w.heap.size w w':=by
 obtain ⟨X,hX⟩:∃ X,X=w.heap.size:=⟨_,rfl⟩;have T:Mem w (w.alloc (.cells (aG a) 266)) [.loc X (aG a) 266]:=(Mem.start w).newAt _ 266 X hX;have Hr:=Z9 (fun w'=>aft a.q.v.t w' hs);unfold zu;go_enter Tryz.func260,Tryz.ntmps260
 go_upto_region 1 with fail
 rw [← hX];clear hX;generalize w.alloc (.cells (aG a) 266)=w1 at *;have l0:=(T.lv 0 rfl).all;go_wp2_with fail
 refine (Hr.out w1).mono ?_;rintro e w2 ⟨rfl,hl2⟩;have Hb:=Z9 (T.below hl2).b;clear T hl2 l0 Hr;go_wp2_with fail
 go_ret;exact ⟨rfl,Hb.out⟩
theorem Sm (a:aj)(w:World):Calls Tryz.prog 266 #[.agg (aG a)] w fun e w'=>e=.returned (.bool (jw a.q))∧Below w.heap.size w w':=by
 obtain ⟨X,hX⟩:∃ X,X=w.heap.size:=⟨_,rfl⟩;have T:Mem w (w.alloc (.cells (aG a) 266)) [.loc X (aG a) 266]:=(Mem.start w).newAt _ 266 X hX;have Hb:=Z9 T.b;unfold jw;go_enter Tryz.func266,Tryz.ntmps266
 go_upto_region 1 with fail
 rw [← hX];clear hX;generalize w.alloc (.cells (aG a) 266)=w1 at *;have l0:=(T.lv 0 rfl).all;go_wp2_with fail
 go_ret;exact ⟨by first | rfl | simp,Hb.out⟩
theorem agN (a:aj)(w:World):Calls Tryz.prog 265 #[.agg (aG a)] w fun e w'=>e=.returned (.bool (!jw a.q))∧Below w.heap.size w w':=by
 obtain ⟨X,hX⟩:∃ X,X=w.heap.size:=⟨_,rfl⟩;have T:Mem w (w.alloc (.cells (aG a) 266)) [.loc X (aG a) 266]:=(Mem.start w).newAt _ 266 X hX;have Ht:=Z9 (fun w'=>Sm a w');obtain ⟨tb,htb⟩:∃ tb,jw a.q=tb:=⟨_,rfl⟩;rw [htb] at Ht ⊢;clear htb;go_enter Tryz.func265,Tryz.ntmps265
 go_upto_region 1 with fail
 rw [← hX];clear hX;generalize w.alloc (.cells (aG a) 266)=w1 at *;have l0:=(T.lv 0 rfl).all;go_wp2_with fail
 refine (Ht.out w1).mono ?_;rintro e w2 ⟨rfl,hl2⟩;have Hb:=Z9 (T.below hl2).b;clear T hl2 l0 Ht;go_wp2_with fail
 go_ret;exact ⟨by first | rfl | simp,Hb.out⟩
theorem agO (U X:Nat)(L:List (Vt×Value))(l:List Tc)(a:aj)(w:World)(hU:LV w U #[.map (some X)] 315)(hM:mO rW w X L)(hL:(aT a.q.v L).getD (.int .i64 0)=.int .i64 (jR l a.q)):Calls Tryz.prog 262 #[.agg (aG a),.pointer (some ⟨U,0,none⟩)] w fun e w'=>e=.returned (.int .i64 (jR l a.q))∧Below w.heap.size w w':=by
 obtain ⟨Y,hY⟩:∃ Y,Y=w.heap.size:=⟨_,rfl⟩;have T:Mem w (w.alloc (.cells (aG a) 266)) [.loc Y (aG a) 266]:=(Mem.start w).newAt _ 266 Y hY;have u0:=(LV.dQ hU T.b hU.lt).all;have hM1:mO rW (w.alloc (.cells (aG a) 266)) X L:=by
  obtain ⟨es,cl,hb,he⟩:=hM;exact ⟨es,cl,(T.b.block X (Array.getElem?_eq_some_iff.1 hb).1).trans hb,he⟩
 have hlk:=tJ (K:=rW) (T:=315) (E:=3) (z:=.int .i64 0) hM1 (by kernel_rfl) (by kernel_rfl) a.q.v false;rw [if_neg (by decide),hL] at hlk;replace hlk:(Instr.lookup 315 (.map (some X)) (.agg #[.int .i64 a.q.v.k,.string a.q.v.t,.int .i64 a.q.v.n]) false).run Tryz.prog (w.alloc (.cells (aG a) 266))=.ok (.int .i64 (jR l a.q)) (w.alloc (.cells (aG a) 266)):=hlk;have Hb:=Z9 T.b;obtain ⟨cn,hcn⟩:∃ cn,jR l a.q=cn:=⟨_,rfl⟩;rw [hcn] at hlk ⊢;clear hM hM1 hL hU hcn;go_enter Tryz.func262,Tryz.ntmps262
 go_upto_region 1 with fail
 rw [← hY];clear hY;generalize w.alloc (.cells (aG a) 266)=w1 at *;have l0:=(T.lv 0 rfl).all;go_wp2_with fail
 go_ret;exact ⟨rfl,Hb.out⟩
theorem agP (V:Nat)(sg:Int)(a:aj)(w:World)(hV:LV w V #[.int .i64 sg] 3)(hs:sg=1∨sg=-1)(hn:-4611686018427387904≤a.q.v.n∧a.q.v.n≤4611686018427387904):Calls Tryz.prog 269 #[.agg (aG a),.pointer (some ⟨V,0,none⟩)] w fun e w'=>e=.returned (.int .i64 (uK sg a.q))∧Below w.heap.size w w':=by
 obtain ⟨Y,hY⟩:∃ Y,Y=w.heap.size:=⟨_,rfl⟩;have T:Mem w (w.alloc (.cells (aG a) 266)) [.loc Y (aG a) 266]:=(Mem.start w).newAt _ 266 Y hY;have u0:=(LV.dQ hV T.b hV.lt).all;have Hb:=Z9 T.b;obtain ⟨nm,hnm⟩:∃ nm,uK sg a.q=nm:=⟨_,rfl⟩;have hwr:IntKind.i64.wrap (sg * a.q.v.n)=nm:=by
  rw [← hnm];unfold uK;rcases hs with rfl | rfl
  ·simp [IntKind.wrap,IntKind.bits,IntKind.signed];omega
  ·simp [IntKind.wrap,IntKind.bits,IntKind.signed];omega
 rw [hnm];clear hV hs hn hnm;go_enter Tryz.func269,Tryz.ntmps269
 go_upto_region 1 with fail
 rw [← hY];clear hY;generalize w.alloc (.cells (aG a) 266)=w1 at *;have l0:=(T.lv 0 rfl).all;go_wp2_with fail
 go_ret;exact ⟨by first | rfl | (rw [hwr]) | simp [hwr],Hb.out⟩
theorem aav (s:ByteArray):∀ (ss:List ByteArray) (i:Nat),-1≤Lib.idxFromS ss s i∧Lib.idxFromS ss s i≤(i:Int) + ss.length
 | [],i=>by
  rw [Lib.idxFromS];simp only [ZO];omega
 | y::r,i=>by
  have h:=aav s r (i + 1);rw [Lib.idxFromS];simp only [ZV];split
  ·omega
  ·omega
theorem Ws (ss:List ByteArray)(s:ByteArray):-1≤xW ss s∧xW ss s≤ss.length:=by
 have h:=aav s ss 0;unfold xW Lib.idxOfS;omega
theorem Wq (N:Nat→Prop)(A:Option Addr)(ss:List ByteArray)(c:Nat)(x:ByteArray)(w:World)(hS:Sl fB N w A ss)(hl:ss.length≤1000000) :
  Calls Tryz.prog 221 #[.slice A ss.length c,.string x] w fun e w'=>e=.returned (.int .i64 (xW ss x))∧w=w':=by
 unfold xW;cases hss:ss with
 | nil =>
  refine (Tryz.slices_Index_string_empty A c x w).mono ?_;rintro e w' ⟨rfl,rfl⟩;exact ⟨rfl,rfl⟩
 | cons y r =>
  rw [← hss];have hne:ss≠[]:=by rw [hss];exact List.cons_ne_nil _ _
  have h0:∃ b o,A=some ⟨b,o,none⟩∧∀ j,j < ss.length→w.cell? ⟨b,o + j,none⟩=some (.string (ss.getD j ByteArray.empty)):=by
   obtain ⟨b,o,e,_,_⟩:=hS.str 0 y (by rw [hss];rfl);refine ⟨b,o,e,fun j hj=>?_⟩;obtain ⟨b2,o2,e2,_,hc⟩:=hS.str j ss[j] (Z8 hj);rw [e] at e2;simp only [Option.some.injEq,Addr.mk.injEq,and_true] at e2;obtain ⟨rfl,rfl⟩:=e2;rw [hc,List.getD_eq_getElem?_getD,Z8 hj];rfl
  obtain ⟨b,o,rfl,hc⟩:=h0;refine (Tryz.slices_Index_string b o ss.length c ss x w (Z5 _) (by omega) hc).mono ?_;rintro e w' ⟨rfl,rfl⟩;exact ⟨by rw [Zp],rfl⟩
theorem agQ (N:Nat→Prop)(Y:Nat)(s:Srv)(A:Option Addr)(c:Nat)(a:aj)(w:World)(hY:LV w Y (bG s A c) 124)(hS:Sl fB N w A s.srcs)(hl:s.srcs.length≤1000000):Calls Tryz.prog 263 #[.agg (aG a),.pointer (some ⟨Y,0,none⟩)] w fun e w'=>e=.returned (.int .i64 (xU s.srcs a.q))∧Below w.heap.size w w':=by
 obtain ⟨X,hX⟩:∃ X,X=w.heap.size:=⟨_,rfl⟩;have T:Mem w (w.alloc (.cells (aG a) 266)) [.loc X (aG a) 266]:=(Mem.start w).newAt _ 266 X hX;have u0:=(LV.dQ hY T.b hY.lt).all;have jP:=Z9 (Wq N A s.srcs c a.q.src _ (hS.aK T.b) hl);have hrg:=Ws s.srcs a.q.src;unfold xU;have Hb:=Z9 T.b;obtain ⟨ix,hix⟩:∃ ix,xW s.srcs a.q.src=ix:=⟨_,rfl⟩;rw [hix] at jP hrg ⊢;obtain ⟨R,HR⟩:∃ R,Hid ((if 0≤ix then -ix else -(s.srcs.length:Int))=R):=⟨_,Z9 rfl⟩;rw [HR.out];clear hix hY hS;go_enter Tryz.func263,Tryz.ntmps263
 go_upto_region 1 with fail
 rw [← hX];clear hX;generalize w.alloc (.cells (aG a) 266)=w1 at *;have l0:=(T.lv 0 rfl).all;go_wp2_with fail
 refine (jP.out).mono ?_;rintro e _ ⟨rfl,rfl⟩;by_cases h:0≤ix
 ·have Hn:Hid (-ix=R):=by show _=_;rw [← HR.out,if_pos h]
  have hwr:IntKind.i64.wrap (-ix)=-ix:=by simp [IntKind.wrap,IntKind.bits,IntKind.signed];omega
  clear HR;go_wp2_with fail
  go_ret;exact ⟨by first | exact aH Hn.out | (rw [hwr];exact aH Hn.out),Hb.out⟩
 ·have Hn:Hid (-(s.srcs.length:Int)=R):=by show _=_;rw [← HR.out,if_neg h]
  have hwr:IntKind.i64.wrap (-(s.srcs.length:Int))=-(s.srcs.length:Int):=by simp [IntKind.wrap,IntKind.bits,IntKind.signed];omega
  clear HR;go_wp2_with fail
  go_ret;exact ⟨by first | exact aH Hn.out | (rw [hwr];exact aH Hn.out),Hb.out⟩
end
section
open Go Go.RowKit
theorem Own.Sr {M:Nat→Prop}{B E g n cap:Nat}{w:World}{xs:List aj}(h:Own bU M B E w (.slice (some ⟨g,0,none⟩) n cap) xs)(hn:n=xs.length)(k:Nat)(x:aj)(hk:xs[k]? =some x) :
  (w.cell? ⟨g,k * 8,none⟩=some (.int .i64 x.q.no)∧w.cell? ⟨g,k * 8 + 1,none⟩=some (.int .i64 x.q.at')∧w.cell? ⟨g,k * 8 + 2,none⟩=some (.string x.q.src)∧w.cell? ⟨g,k * 8 + 3,none⟩=some (.slice x.A x.n x.c)∧w.cell? ⟨g,k * 8 + 4,none⟩=some (.slice x.B x.m x.d)∧w.cell? ⟨g,k * 8 + 5,none⟩=some (.int .i64 x.q.v.k)∧w.cell? ⟨g,k * 8 + 6,none⟩=some (.string x.q.v.t)∧w.cell? ⟨g,k * 8 + 7,none⟩=some (.int .i64 x.q.v.n)) ∧
  ∀ j,j < 8→w.frozen? ⟨g,k * 8 + j,none⟩=false :=
 ⟨⟨(h.cellP jF hn k x hk 0 _ rfl).1,(h.cellP jF hn k x hk 1 _ rfl).1,(h.cellP jF hn k x hk 2 _ rfl).1,(h.cellP jF hn k x hk 3 _ rfl).1,(h.cellP jF hn k x hk 4 _ rfl).1,(h.cellP jF hn k x hk 5 _ rfl).1,(h.cellP jF hn k x hk 6 _ rfl).1,(h.cellP jF hn k x hk 7 _ rfl).1⟩,fun j hj=>by
  obtain ⟨u,hu⟩:∃ u,(aj.cells x)[j]? =some u:=⟨_,Z8 hj⟩;exact (h.cellP jF hn k x hk j u hu).2⟩
theorem Mem.agR {w0 w:World}{cs:List Chunk}(S:Mem w0 w cs)(i:Nat){B E g n cap:Nat}{ys:List aj}(hi:cs[i]? =some (.own bU B E (.slice (some ⟨g,0,none⟩) n cap) ys))(hn:n=ys.length)(p:Nat)(z x:aj)(hz:ys[p]? =some z) :
  Mem w0 ((((((((w.setCell ⟨g,p * 8,none⟩ (.int .i64 x.q.no)).setCell ⟨g,p * 8 + 1,none⟩ (.int .i64 x.q.at')).setCell ⟨g,p * 8 + 2,none⟩ (.string x.q.src)).setCell ⟨g,p * 8 + 3,none⟩ (.slice x.A x.n x.c)).setCell ⟨g,p * 8 + 4,none⟩ (.slice x.B x.m x.d)).setCell ⟨g,p * 8 + 5,none⟩ (.int .i64 x.q.v.k)).setCell ⟨g,p * 8 + 6,none⟩ (.string x.q.v.t)).setCell ⟨g,p * 8 + 7,none⟩ (.int .i64 x.q.v.n)) (cs.set i (.own bU B E (.slice (some ⟨g,0,none⟩) n cap) (ys.set p x))):=by
 have hp:=bM hz;have hci:i < cs.length:=bM hi;have S1:=S.put jF i hi hn p z (⟨⟨x.q.no,z.q.at',z.q.src,⟨z.q.v.k,z.q.v.t,z.q.v.n⟩⟩,z.A,z.n,z.c,z.B,z.m,z.d⟩:aj) hz 0 (by decide) (.int .i64 x.q.no) rfl;have S2:=S1.put jF i (by rw [ZY hci]) (by rw [ZU];exact hn) p (⟨⟨x.q.no,z.q.at',z.q.src,⟨z.q.v.k,z.q.v.t,z.q.v.n⟩⟩,z.A,z.n,z.c,z.B,z.m,z.d⟩:aj) (⟨⟨x.q.no,x.q.at',z.q.src,⟨z.q.v.k,z.q.v.t,z.q.v.n⟩⟩,z.A,z.n,z.c,z.B,z.m,z.d⟩:aj) (by rw [ZY hp]) 1 (by decide) (.int .i64 x.q.at') rfl;simp only [ZB] at S2;have S3:=S2.put jF i (by rw [ZY hci]) (by rw [ZU];exact hn) p (⟨⟨x.q.no,x.q.at',z.q.src,⟨z.q.v.k,z.q.v.t,z.q.v.n⟩⟩,z.A,z.n,z.c,z.B,z.m,z.d⟩:aj) (⟨⟨x.q.no,x.q.at',x.q.src,⟨z.q.v.k,z.q.v.t,z.q.v.n⟩⟩,z.A,z.n,z.c,z.B,z.m,z.d⟩:aj) (by rw [ZY hp]) 2 (by decide) (.string x.q.src) rfl;simp only [ZB] at S3;have S4:=S3.put jF i (by rw [ZY hci]) (by rw [ZU];exact hn) p (⟨⟨x.q.no,x.q.at',x.q.src,⟨z.q.v.k,z.q.v.t,z.q.v.n⟩⟩,z.A,z.n,z.c,z.B,z.m,z.d⟩:aj) (⟨⟨x.q.no,x.q.at',x.q.src,⟨z.q.v.k,z.q.v.t,z.q.v.n⟩⟩,x.A,x.n,x.c,z.B,z.m,z.d⟩:aj) (by rw [ZY hp]) 3 (by decide) (.slice x.A x.n x.c) rfl;simp only [ZB] at S4;have S5:=S4.put jF i (by rw [ZY hci]) (by rw [ZU];exact hn) p (⟨⟨x.q.no,x.q.at',x.q.src,⟨z.q.v.k,z.q.v.t,z.q.v.n⟩⟩,x.A,x.n,x.c,z.B,z.m,z.d⟩:aj) (⟨⟨x.q.no,x.q.at',x.q.src,⟨z.q.v.k,z.q.v.t,z.q.v.n⟩⟩,x.A,x.n,x.c,x.B,x.m,x.d⟩:aj) (by rw [ZY hp]) 4 (by decide) (.slice x.B x.m x.d) rfl;simp only [ZB] at S5;have S6:=S5.put jF i (by rw [ZY hci]) (by rw [ZU];exact hn) p (⟨⟨x.q.no,x.q.at',x.q.src,⟨z.q.v.k,z.q.v.t,z.q.v.n⟩⟩,x.A,x.n,x.c,x.B,x.m,x.d⟩:aj) (⟨⟨x.q.no,x.q.at',x.q.src,⟨x.q.v.k,z.q.v.t,z.q.v.n⟩⟩,x.A,x.n,x.c,x.B,x.m,x.d⟩:aj) (by rw [ZY hp]) 5 (by decide) (.int .i64 x.q.v.k) rfl
 simp only [ZB] at S6;have S7:=S6.put jF i (by rw [ZY hci]) (by rw [ZU];exact hn) p (⟨⟨x.q.no,x.q.at',x.q.src,⟨x.q.v.k,z.q.v.t,z.q.v.n⟩⟩,x.A,x.n,x.c,x.B,x.m,x.d⟩:aj) (⟨⟨x.q.no,x.q.at',x.q.src,⟨x.q.v.k,x.q.v.t,z.q.v.n⟩⟩,x.A,x.n,x.c,x.B,x.m,x.d⟩:aj) (by rw [ZY hp]) 6 (by decide) (.string x.q.v.t) rfl;simp only [ZB] at S7;have S8:=S7.put jF i (by rw [ZY hci]) (by rw [ZU];exact hn) p (⟨⟨x.q.no,x.q.at',x.q.src,⟨x.q.v.k,x.q.v.t,z.q.v.n⟩⟩,x.A,x.n,x.c,x.B,x.m,x.d⟩:aj) (⟨⟨x.q.no,x.q.at',x.q.src,⟨x.q.v.k,x.q.v.t,x.q.v.n⟩⟩,x.A,x.n,x.c,x.B,x.m,x.d⟩:aj) (by rw [ZY hp]) 7 (by decide) (.int .i64 x.q.v.n) rfl;simp only [ZB] at S8;exact S8
def JH (w0:World)(cs:List Chunk)(B:Nat)(v:Value)(f:Nat)(caps:Array Value)(xs:List aj)(P:aj→Bool):Prop :=
 ∀ (y:aj) (w':World) (ys:List aj),y∈xs→Mem w0 w' (.own bU B 266 v ys::cs) →
  Calls Tryz.prog f (#[.agg (aG y)]++caps) w' fun e w''=>e=.returned (.bool (P y))∧Below w'.heap.size w' w''
def agS (P:aj→Bool)(xs:List aj)(w0:World)(cs:List Chunk)(e:Ending)(w':World):Prop :=
 ∃ i:Int,e=.returned (.int .i64 i)∧Mem w0 w' cs∧((i=-1∧∀ y∈xs,P y=false)∨∃ (j:Nat) (y:aj),i=j∧xs[j]? =some y∧P y=true∧∀ z∈xs.take j,P z=false)
theorem agT {w0 w:World}{cs:List Chunk}{B g n cap:Nat}{xs:List aj}(P:aj→Bool)(f:Nat)(caps:Array Value)(ef:∀ args w,(callFunc f args).run Tryz.prog w=.ok (.enter f args) w)(S:Mem w0 w (.own bU B 266 (.slice (some ⟨g,0,none⟩) n cap) xs::cs))(hn:n=xs.length)(hl:n≤1000000)(hf:JH w0 cs B (.slice (some ⟨g,0,none⟩) n cap) f caps xs P) :
  Calls Tryz.prog 310 #[.slice (some ⟨g,0,none⟩) n cap,.func (.func f) #[] caps] w (agS P xs w0 (.own bU B 266 (.slice (some ⟨g,0,none⟩) n cap) xs::cs)):=by
 unfold JH at hf;have HF:=Z9 hf;have Hn:=Z9 hn;clear hf hn;go_enter Tryz.func310,Tryz.ntmps310
 go_wp2_with fail
 go_loopw [8] (fun i wr=>∃ j:Nat,j≤n∧i=.int .i64 j∧Hid (∀ z∈xs.take j,P z=false)∧Mem w0 wr (.own bU B 266 (.slice (some ⟨g,0,none⟩) n cap) xs::cs)) (fun i _=>n - (intOf i).toNat)
 case atStart=>exact ⟨0,ZN _,rfl,(by show ∀ z∈_,_;simp),S⟩
 case round =>
  clear S;obtain ⟨j,hj,rfl,HP,S⟩:=hrel;by_cases hlt:j < n
  ·obtain ⟨x,hx⟩:∃ x,xs[j]? =some x:=⟨_,Z8 (by have:=Hn.out;omega)⟩;obtain ⟨⟨d0,d1,d2,d3,d4,d5,d6,d7⟩,_⟩:=(S.ow 0 rfl).Sr Hn.out j x hx;have Hx:=Z9 hx;clear hx;have HS:=Z9 S;clear S;go_wp2_with fail
   refine (HF.out x wr xs (Z7 Hx.out) HS.out).mono ?_;rintro e w2 ⟨rfl,hl2⟩;have S:=HS.out.below hl2;clear hl2 d0 d1 d2 d3 d4 d5 d6 d7 HS;cases hp:P x with
   | false =>
    have HP2:Hid (∀ z∈xs.take (j + 1),P z=false):=fun z hz=>by
     rw [take_snoc Hx.out] at hz;rcases List.mem_append.1 hz with hz | hz
     ·exact HP.out z hz
     ·rw [List.mem_singleton.1 hz];exact hp
    clear hp;go_wp2_with fail
    go_roundw
    case rel=>exact ⟨j + 1,by omega,by go_num,HP2,S⟩
    case measure=>simp [intOf];omega
   | true =>
    have Hp:=Z9 hp;clear hp;go_wp2_with fail
    go_ret;exact ⟨j,rfl,S,.inr ⟨j,x,rfl,Hx.out,Hp.out,HP.out⟩⟩
  ·have HP2:Hid (∀ z∈xs,P z=false):=by
    have h1:=HP.out;rw [List.take_of_length_le (by have:=Hn.out;omega)] at h1;exact h1
   go_wp2_with fail
   go_ret;exact ⟨-1,rfl,S,.inl ⟨rfl,HP2.out⟩⟩
theorem agU (w:World)(f:Nat)(caps:Array Value) :
  Calls Tryz.prog 310 #[.slice none 0 0,.func (.func f) #[] caps] w fun e w'=>e=.returned (.int .i64 (-1))∧w=w':=by
 go_enter Tryz.func310,Tryz.ntmps310
 go_wp2_with fail
 go_loopw [8] (fun i wr=>i=.int .i64 0∧w=wr) (fun _ _=>0)
 case atStart=>exact ⟨rfl,rfl⟩
 case round =>
  obtain ⟨rfl,rfl⟩:=hrel;go_wp2_with fail
  go_ret;exact ⟨rfl,rfl⟩
theorem agV (w:World):(zeroValue 266).run Tryz.prog w=.ok (.agg #[.int .i64 0,.int .i64 0,.string ⟨#[]⟩,.slice none 0 0,.slice none 0 0,.int .i64 0,.string ⟨#[]⟩,.int .i64 0]) w:=by kernel_rfl
theorem agW (j:Nat)(h:j < bU.size):(((Value.agg #[.int .i64 0,.int .i64 0,.string ⟨#[]⟩,.slice none 0 0,.slice none 0 0,.int .i64 0,.string ⟨#[]⟩,.int .i64 0]).cells)[j]!).oneCell'=true:=by
 obtain rfl | rfl | rfl | rfl | rfl | rfl | rfl | rfl:j=0∨j=1∨j=2∨j=3∨j=4∨j=5∨j=6∨j=7:=by
  have:j < 8:=h
  omega
 all_goals rfl
def vI {α:Type}(P:α→Bool)(x:α):Bool:= !P x
theorem aaw {α:Type}{P:α→Bool}{xs:List α}(h:∀ y∈xs,P y=false):xs.filter (vI P)=xs:=List.filter_eq_self.2 fun y hy=>by simp [vI,h y hy]
structure xk {α:Type} (P:α→Bool) (xs ys:List α) (i j:Nat):Prop where
 len:ys.length=xs.length
 front:ys.take i=(xs.take j).filter (vI P)
 rest:ys.drop j=xs.drop j
 le:i≤j
section
variable {α:Type} {P:α→Bool} {xs ys:List α} {i j:Nat}
theorem xk.get (h:xk P xs ys i j){x:α}(hx:ys[j]? =some x):xs[j]? =some x:=by
 have h1:=congrArg (fun l:List α=>l[0]?) h.rest;simp only [List.getElem?_drop,Nat.add_zero] at h1;rw [← h1];exact hx
theorem xk.skip (h:xk P xs ys i j){x:α}(hx:ys[j]? =some x)(hp:P x=true):xk P xs ys i (j + 1):=by
 refine ⟨h.len,?_,?_,Nat.le_succ_of_le h.le⟩
 ·rw [take_snoc (h.get hx),YJ,h.front];simp [vI,hp]
 ·have h1:=congrArg (List.drop 1) h.rest;rw [YG,YG] at h1;exact h1
theorem xk.put (h:xk P xs ys i j)(hij:i < j){x:α}(hx:ys[j]? =some x)(hp:P x=false):xk P xs (ys.set i x) (i + 1) (j + 1):=by
 have hi:i < ys.length:=by have:=bM hx;omega
 refine ⟨by rw [ZU,h.len],?_,?_,by omega⟩
 ·rw [take_snoc (h.get hx),YJ,← h.front,List.take_set,take_snoc (x:=ys[i]) (Z8 hi)];have hl:(ys.take i).length=i:=by rw [ZR];omega
  rw [YZ _ _ (by omega),hl,Nat.sub_self];simp [vI,hp]
 ·rw [List.drop_set_of_lt (by omega)];have h1:=congrArg (List.drop 1) h.rest;rw [YG,YG] at h1;exact h1
end
def aax (P:aj→Bool)(xs:List aj)(B:Nat)(w0:World)(cs:List Chunk)(e:Ending)(w':World):Prop :=
 ∃ v,e=.returned v∧Mem w0 w' (.own bU B 266 v (xs.filter (vI P))::cs)
theorem agX {w0 w:World}{cs:List Chunk}{B g n cap:Nat}{xs:List aj}(P:aj→Bool)(f:Nat)(caps:Array Value)(ef:∀ args w,(callFunc f args).run Tryz.prog w=.ok (.enter f args) w)(S:Mem w0 w (.own bU B 266 (.slice (some ⟨g,0,none⟩) n cap) xs::cs))(hn:n=xs.length)(hl:n≤1000000)(hf:JH w0 cs B (.slice (some ⟨g,0,none⟩) n cap) f caps xs P) :
  Calls Tryz.prog 267 #[.slice (some ⟨g,0,none⟩) n cap,.func (.func f) #[] caps] w (aax P xs B w0 cs):=by
 have jP:=Z9 (agT P f caps ef S hn hl hf);unfold JH at hf;have HF:=Z9 hf;have Hn:=Z9 hn;clear hf hn S;go_enter Tryz.func267,Tryz.ntmps267
 go_wp2_with fail
 refine (jP.out).mono ?_;rintro e w2 ⟨i,rfl,S,hc⟩;clear jP;rcases hc with ⟨rfl,hall⟩ | ⟨j0,y0,rfl,hy0,hp0,hbef⟩
 ·have Hk:=Z9 (aaw hall);clear hall;go_wp2_with fail
  go_ret;refine ⟨_,rfl,?_⟩;rw [Hk.out];exact S
 ·have hj0:j0 < n:=by have:=bM hy0;have:=Hn.out;omega
  have HD:Hid (xk P xs xs j0 (j0 + 1)):=by
   refine ⟨rfl,?_,rfl,Nat.le_succ _⟩;rw [take_snoc hy0,YJ,aaw hbef];simp [vI,hp0]
  clear hy0 hp0 hbef;go_wp2_with fail
  go_loopw [5,6] (fun s5 s6 wr=>∃ (i j:Nat) (ys:List aj),s5=.int .i64 i∧s6=.int .i64 j∧i < j∧j≤n∧Hid (xk P xs ys i j)∧Mem w0 wr (.own bU B 266 (.slice (some ⟨g,0,none⟩) n cap) ys::cs)) (fun _ s6 _=>n - (intOf s6).toNat)
  case atStart=>exact ⟨j0,j0 + 1,xs,rfl,by go_num,by omega,by omega,HD,S⟩
  case round =>
   clear S HD;obtain ⟨i,j,ys,rfl,rfl,hij,hj,HD,S⟩:=hrel;by_cases hlt:j < n
   ·obtain ⟨x,hx⟩:∃ x,ys[j]? =some x:=⟨_,Z8 (by have:=Hn.out;have:=HD.out.len;omega)⟩;have hyl:Hid (n=ys.length):=by show _=_;have:=Hn.out;have:=HD.out.len;omega
    obtain ⟨⟨d0,d1,d2,d3,d4,d5,d6,d7⟩,_⟩:=(S.ow 0 rfl).Sr hyl.out j x hx;have Hx:=Z9 hx;clear hx;go_upto_region 8 with fail
    clear d0 d1 d2 d3 d4 d5 d6 d7;obtain ⟨Y,hY⟩:∃ Y,Y=wr.heap.size:=⟨_,rfl⟩;have Ly:=LV.new wr wr.heap.size (aG x) 266 rfl;replace S:=S.alloc (.cells (aG x) 266);rw [← hY] at Ly ⊢;have hYl:Y < (wr.alloc (.cells (aG x) 266)).heap.size:=by rw [hY];simp
    clear hY;generalize wr.alloc (.cells (aG x) 266)=w3 at *;have c0:=Ly.all;have HS:=Z9 S;clear S;go_wp2_with fail
    refine (HF.out x w3 ys (Z7 (HD.out.get Hx.out)) HS.out).mono ?_;rintro e w4 ⟨rfl,hl4⟩;have uD:=Z9 (HS.out.below hl4);have Ly4:=LV.dQ Ly hl4 hYl;clear hl4 HS c0 Ly;have c0:=Ly4.all;cases hp:P x with
    | true =>
     have HD2:=Z9 (HD.out.skip Hx.out hp);clear hp HD;go_wp2_with fail
     go_roundw
     case rel=>exact ⟨_,_,_,_,_,_,_,_,_,_,_,_,_,_,_,_,_,_,_,_,_,_,_,⟨i,j + 1,ys,rfl,by go_num,by omega,by omega,HD2,uD.out⟩,rfl⟩
     case measure=>simp [intOf];omega
    | false =>
     have HD2:=Z9 (HD.out.put hij Hx.out hp);clear hp HD;obtain ⟨z,hz⟩:∃ z,ys[i]? =some z:=⟨_,Z8 (by have:=hyl.out;omega)⟩;obtain ⟨⟨e0,e1,e2,e3,e4,e5,e6,e7⟩,ff⟩:=(uD.out.ow 0 rfl).Sr hyl.out i z hz;have f0:w4.frozen? ⟨g,i * 8,none⟩=false:=ff 0 (by omega);have f1:=ff 1 (by omega);have f2:=ff 2 (by omega);have f3:=ff 3 (by omega);have f4:=ff 4 (by omega);have f5:=ff 5 (by omega);have f6:=ff 6 (by omega);have f7:=ff 7 (by omega);have Hz:=Z9 hz;clear hz ff;go_wp2_with fail
     have S1:=uD.out.agR 0 rfl hyl.out i z x Hz.out;simp only [YH] at S1;go_roundw
     case rel=>exact ⟨_,_,_,_,_,_,_,_,_,_,_,_,_,_,_,_,_,_,_,_,_,_,_,⟨i + 1,j + 1,ys.set i x,by go_num,by go_num,by omega,by omega,HD2,S1⟩,rfl⟩
     case measure=>simp [intOf];omega
   ·have hyl:Hid (n=ys.length):=by show _=_;have:=Hn.out;have:=HD.out.len;omega
    have HT:Hid (ys.take i=xs.filter (vI P)):=by
     show _=_;rw [HD.out.front,List.take_of_length_le (by have:=Hn.out;omega)]
    have Sz:Hid (i=(xs.filter (vI P)).length):=by show _=_;rw [← HT.out,ZR];have:=hyl.out;omega
    clear HD;have hcap:n≤cap:=by
     obtain ⟨g2,cap2,e2,h2⟩:=(S.ow 0 rfl).form (by have:=hyl.out;omega);have:=hyl.out
     simp only [Value.slice.injEq] at e2;omega
    go_wp2_with (refine S.aay 0 rfl hyl.out Jd agV agW i (cap - i) (by omega) rfl _ rfl (i * 8) (n - i) rfl rfl rfl ?_;intro w5 S5)
    go_ret;refine ⟨_,rfl,?_⟩;rw [HT.out] at S5;exact S5
theorem aaz {w0 w:World}{cs:List Chunk}{B:Nat}{v:Value}{xs:List aj}(P:aj→Bool)(f:Nat)(caps:Array Value)(ef:∀ args w,(callFunc f args).run Tryz.prog w=.ok (.enter f args) w)(S:Mem w0 w (.own bU B 266 v xs::cs))(hl:xs.length≤1000000)(hf:JH w0 cs B v f caps xs P) :
  Calls Tryz.prog 267 #[v,.func (.func f) #[] caps] w (aax P xs B w0 cs):=by
 rcases (S.ow 0 rfl).shape2 with ⟨rfl,rfl⟩ | ⟨g,cap,rfl,hc⟩
 ·clear hf;go_enter Tryz.func267,Tryz.ntmps267
  go_wp2_with fail
  refine (agU w f caps).mono ?_;rintro e _ ⟨rfl,rfl⟩;go_wp2_with fail
  go_ret;exact ⟨_,rfl,S⟩
 ·exact agX P f caps ef S rfl hl hf
end
section
open Go Go.RowKit
def jS (x m:Tc):Bool:=decide (0 < ou x m)
def Qi (x m:Tc):Bool:=decide (ou x m < 0)
def yc (ms:Tc→Int)(x m:Tc):Bool:=decide (0 < qj ms x m)
def oM (a:aj):Bool:= !jw a.q
def kT (how:Int)(srcs:List ByteArray)(x0:Tc)(r0:List Tc):Tc :=
 if how=2 then pick Qi x0 r0
 else if how=3 then pick (yc zu) x0 r0
 else if how=4 then pick (yc (jR (x0::r0))) x0 r0
 else if how=5 then pick (yc (xU srcs)) x0 r0
 else if how=6∨how=7 then
  match (x0::r0).filter (fun x=> !jw x) with
  | []=>pick jS x0 r0
  | y::t=>pick (yc (uK (if how=7 then -1 else 1))) y t
 else pick jS x0 r0
theorem agY (a:aj)(w:World):Calls Tryz.prog 265 #[.agg (aG a)] w fun e w'=>e=.returned (.bool (oM a))∧Below w.heap.size w w':=agN a w
theorem agZ {N:Nat→Prop}(A:Option Addr)(xs:List aj)(c:Nat)(w:World)(hS:Sl bU N w A xs)(hl:xs.length≤1000000) :
  Calls Tryz.prog 310 #[.slice A xs.length c,.func (.func 265) #[] #[]] w fun e w'=>e=.returned (.int .i64 (xq oM 0 xs))∧Below w.heap.size w w':=by
 have HS:=Z9 hS;clear hS;obtain ⟨R,HR⟩:∃ R,Hid (xq oM 0 xs=R):=⟨_,Z9 rfl⟩;rw [HR.out];go_enter Tryz.func310,Tryz.ntmps310
 go_wp2_with fail
 go_loopw [8] (fun i wr=>∃ k:Nat,k≤xs.length∧i=.int .i64 k∧xq (oM) k (xs.drop k)=R∧Below w.heap.size w wr) (fun i _=>xs.length - (intOf i).toNat)
 case atStart=>exact ⟨0,ZN _,rfl,HR.out,ZX _ _⟩
 case round =>
  clear HR;obtain ⟨k,hk,rfl,hr,hbl⟩:=hrel;have Hr:=Z9 hr;clear hr;by_cases hlt:k < xs.length
  ·obtain ⟨q,hq⟩:∃ q,xs[k]? =some q:=⟨_,Z8 (by omega)⟩;obtain ⟨blk,off,rfl,hblk,d0,d1,d2,d3,d4,d5,d6,d7⟩:=(HS.out.aK hbl).wK k q hq;have Hs:Hid ((if oM q=true then (k:Int) else xq (oM) (k + 1) (xs.drop (k + 1)))=R):=by
    show _=_;rw [← Hr.out,yB hq];rfl
   have Hc:=Z9 (agY q wr);clear Hr hq;generalize oM q=b at *;go_wp2_with fail
   refine (Hc.out).mono ?_;rintro e w1 ⟨rfl,hl1⟩;have Hb1:=Z9 (hbl.trans (hl1.mono hbl.size));clear d0 d1 d2 d3 d4 d5 d6 d7;clear hl1 Hc;cases b
   ·have Hn:Hid (xq (oM) (k + 1) (xs.drop (k + 1))=R):=Hs.out;go_wp2_with fail
    go_roundw
    case rel=>exact ⟨k + 1,by omega,by go_num,Hn.out,Hb1.out⟩
    case measure=>simp [intOf];omega
   ·have Hn:Hid ((k:Int)=R):=Hs.out;go_wp2_with fail
    go_ret;exact ⟨aH Hn.out,Hb1.out⟩
  ·have Hn:Hid (-1=R):=by show _=_;rw [← Hr.out,ZJ (by omega)];rfl
   clear Hr;go_wp2_with fail
   go_ret;exact ⟨aH Hn.out,hbl⟩
theorem ag0 {N:Nat→Prop}(A:Option Addr)(xs:List aj)(c:Nat)(w:World)(hS:Sl bU N w A xs)(hl:xs.length≤1000000) :
  Calls Tryz.prog 264 #[.slice A xs.length c,.func (.func 265) #[] #[]] w fun e w'=>e=.returned (.bool (xs.any oM))∧Below w.heap.size w w':=by
 have Hi:=Z9 (agZ A xs c w hS hl);rw [← aaA oM xs 0];generalize xq oM 0 xs=ix at *;clear hS;go_enter Tryz.func264,Tryz.ntmps264
 go_wp2_with fail
 refine (Hi.out).mono ?_;rintro e w2 ⟨rfl,kG⟩;have D6:=kG.size;go_wp2_with fail
 go_ret;exact ⟨by first | rfl | simp,kG⟩
theorem ag1 (N:Nat→Prop)(A:Option Addr)(l:List aj)(c:Nat)(w:World)(hL:Sl bU N w A l)(hl:l.length≤10000000) :
  Calls Tryz.prog 268 #[.slice A l.length c] w fun e w'=>∃ A' c',e=.returned (.slice A' l.length c')∧Mem w w' [.own bU w.heap.size 266 (.slice A' l.length c') l]:=by
 have he:∀ (a:Option Addr) (n c:Nat) (w:World),(binOp .eql 187 (.slice a n c) (.slice none 0 0)).run Tryz.prog w=.ok (.bool a.isNone) w:=fun a n c w=>Lib.run_eql_slice_nil w _ _ a n c 0 0 Jd.under;cases A with
 | none =>
  obtain rfl:=Sl.aaB hL;have S:Mem w w [.own bU w.heap.size 266 (.slice none 0 0) []]:=(Mem.start w).nil bU w.heap.size 266;go_enter Tryz.func268,Tryz.ntmps268
  go_wp2_with fail
  go_ret;exact ⟨none,0,rfl,S⟩
 | some ad =>
  have S:=(Mem.start w).newAt #[] 266 w.heap.size rfl;have S1:Mem w (w.alloc (.cells #[] 266)) [.own bU w.heap.size 266 (.slice (some ⟨w.heap.size,0,none⟩) 0 0) []]:=S.room (r:=bU) 0 rfl rfl (by decide) rfl;have Hc:=Z9 (Sl.Jc jF (fun _=>rfl) (hL.aK S1.b));have hsz:=S1.b.size;have HS:=Z9 S1;have Hl:=Z9 hl;clear S S1 hL hl;go_enter Tryz.func268,Tryz.ntmps268
  go_wp2_with (at_builtin;refine HS.out.nJ jF 0 rfl Jd rfl _ _ rfl l l.length c rfl rfl ad rfl Hc.out (fun y _=>Ii y) (fun _=>rfl) hsz (by simp only [ZO];have:=Hl.out;omega) (by decide) ?_;intro v5 w5 S5)
  obtain ⟨A5,c5,e5⟩:=(S5.ow 0 rfl).len;subst e5;go_ret;exact ⟨A5,c5,rfl,S5⟩
def vJ (xs:List Tc)(L:List (Vt×Value)):Prop:=∀ x:Tc,(aT x.v L).getD (.int .i64 0)=.int .i64 (jR xs x)
theorem vJ.start:vJ [] []:=fun _=>rfl
theorem vJ.add {xs:List Tc}{L:List (Vt×Value)}(h:vJ xs L)(y:Tc):vJ (xs++[y]) (bI y.v (.int .i64 (jR xs y + 1)) L):=fun x=>by
 rw [tY];unfold jR;rw [YJ,Z4];by_cases e:x.v=y.v
 ·rw [if_pos e,Option.getD_some];have e2:(List.filter (fun z:Tc=>decide (z.v=x.v)) [y]).length=1:=by simp [e]
  rw [e2,e];rfl
 ·rw [if_neg e];have e2:(List.filter (fun z:Tc=>decide (z.v=x.v)) [y]).length=0:=by
   have:¬ y.v=x.v:=fun h=>e h.symm
   simp [this]
  rw [e2];exact h x
theorem ag2 (xs:List Tc)(x:Tc):0≤jR xs x∧jR xs x≤xs.length:=by
 unfold jR;have:=List.length_filter_le (fun y:Tc=>decide (y.v=x.v)) xs
 omega
end
section
open Go Go.RowKit
theorem ag3 {w:World}{X o:Nat}{k n:Int}{t:ByteArray}(h0:w.cell? ⟨X,o,none⟩=some (.int .i64 k))(h1:w.cell? ⟨X,o + 1,none⟩=some (.string t))(h2:w.cell? ⟨X,o + 2,none⟩=some (.int .i64 n)):(Instr.loadAt 174 (.pointer (some ⟨X,o,none⟩))).run Tryz.prog w=.ok (.agg #[.int .i64 k,.string t,.int .i64 n]) w:=by
 go_simp
theorem aaC (N:Nat→Prop)(s:Srv)(As:Option Addr)(cA:Nat)(A:Option Addr)(x0:aj)(r0:List aj)(n c:Nat)(w:World)(hs2:Sl fB N w As s.srcs)(hsl:s.srcs.length≤1000000)(hS:Sl bU N w A (x0::r0))(hn:n=(x0::r0).length)(hl:(x0::r0).length≤1000000)
  (hok:∀ a∈x0::r0,a.q.v.t.size≤1000000∧-4611686018427387904≤a.q.v.n∧a.q.v.n≤4611686018427387904) :
  Calls Tryz.prog 199 #[.agg (bG s As cA),.slice A n c] w fun e w'=>e=.returned (.agg #[.int .i64 (kT s.how s.srcs x0.q (r0.map aj.q)).v.k,.string (kT s.how s.srcs x0.q (r0.map aj.q)).v.t,.int .i64 (kT s.how s.srcs x0.q (r0.map aj.q)).v.n])∧Below w.heap.size w w':=by
 obtain ⟨V,hV⟩:∃ V,(kT s.how s.srcs x0.q (r0.map aj.q)).v=V:=⟨_,rfl⟩;rw [hV];have HV:=Z9 hV;obtain ⟨xs,hxs⟩:∃ xs,x0::r0=xs:=⟨_,rfl⟩;have Hxs:=Z9 hxs;obtain ⟨Y,hY⟩:∃ Y,Y=w.heap.size:=⟨_,rfl⟩;have T0:Mem w (w.alloc (.cells (bG s As cA) 124)) [.loc Y (bG s As cA) 124]:=(Mem.start w).newAt _ 124 Y hY;have T:Mem w ((w.alloc (.cells (bG s As cA) 124)).alloc (.cells #[.int .i64 0,.string ⟨#[]⟩,.int .i64 0] 174)) [.loc Y (bG s As cA) 124,.loc (Y + 1) #[.int .i64 0,.string ⟨#[]⟩,.int .i64 0] 174]:=T0.newAt #[.int .i64 0,.string ⟨#[]⟩,.int .i64 0] 174 (Y + 1) (by rw [hY,World.size_alloc]);have HS:=Z9 (fun w' (h:Below w.heap.size w w')=>hS.aK h);have HS2:=Z9 (fun w' (h:Below w.heap.size w w')=>hs2.aK h);have kE:=Z9 hok;have Hn:=Z9 hn;have Hl:=Z9 hl;clear hs2 hS hok hn hl T0 hxs hV;go_enter Tryz.func199,Tryz.ntmps199
 go_upto_region 1 with fail
 rw [← hY];clear hY;generalize (w.alloc (.cells (bG s As cA) 124)).alloc (.cells #[.int .i64 0,.string ⟨#[]⟩,.int .i64 0] 174)=w1 at *;obtain ⟨Z,hZ⟩:∃ Z,Z=Y + 1:=⟨_,rfl⟩;rw [← hZ] at T ⊢;clear hZ;have yL:Hid (∀ w',Below w1.heap.size w1 w'→FI w' 258 #[] (x0::r0) ou):=fun w' _ w'' a b _ _ _=>Yj a b w'';have yM:Hid (∀ args w,(callFunc 258 args).run Tryz.prog w=.ok (.enter 258 args) w):=enters_of Tryz.func258 (by kernel_rfl) rfl;have yN:=Z9 (fun w' (h:Below w1.heap.size w1 w')=>Yl 258 #[] ou yM.out N A x0 r0 n c w' (HS.out w' (T.b.trans (h.mono T.b.size))) Hn.out Hl.out (yL.out w' h));have y0:=(T.lv 0 rfl).all;by_cases h2:s.how=2
 ·have e2:(s.how==2)=true:=by simpa using h2
  have aaD:=Z9 (afq 258 #[] ou yM.out N A x0 r0 n c w1 (HS.out w1 T.b) Hn.out Hl.out (yL.out w1 (ZX _ _)));obtain ⟨g,hg⟩:∃ g,dS (fun x m=>decide (ou x m < 0)) x0 r0=g:=⟨_,rfl⟩;rw [hg] at aaD;have Hg:Hid (g.q.v=V):=by
   show _=_;rw [← HV.out,← hg,xX];unfold kT;rw [if_pos h2];rfl
  clear hg yN yL yM h2;go_wp2_with fail
  refine (aaD.out).mono ?_;rintro e w8 ⟨rfl,eG⟩;have T8:=T.below eG;have hfd:=Jf g.q.no g.q.at' g.q.v.k g.q.v.n g.q.src g.q.v.t (.slice g.A g.n g.c) (.slice g.B g.m g.d) ⟨_,_,_,rfl⟩ ⟨_,_,_,rfl⟩;have l1:=(T8.lv 1 rfl).all;have T9:Mem w _ [.loc Y (bG s As cA) 124,.loc Z #[.int .i64 g.q.v.k,.string g.q.v.t,.int .i64 g.q.v.n] 174]:=((T8.set 1 0 (.int .i64 g.q.v.k) rfl).set 1 1 (.string g.q.v.t) rfl).set 1 2 (.int .i64 g.q.v.n) rfl;clear T eG T8;go_wp2_with fail
  exact bodyPost_ret (fK rfl rfl (tN (T9.lv 1 rfl))) rfl ⟨by rw [Hg.out],T9.b⟩
 have e2:(s.how==2)=false:=by simpa using h2
 by_cases h3:s.how=3
 ·have e3:(s.how==3)=true:=by simpa using h3
  have Hb:=Z9 (MZ 260 #[] zu (enters_of Tryz.func260 (by kernel_rfl) rfl) N A x0 r0 n c w1 (HS.out w1 T.b) Hn.out Hl.out (fun w' a ha _=>agM a w' (kE.out a ha).1));obtain ⟨g,hg⟩:∃ g,dS (fun x m=>decide (0 < qj zu x m)) x0 r0=g:=⟨_,rfl⟩;rw [hg] at Hb;have Hg:Hid (g.q.v=V):=by
   show _=_;rw [← HV.out,← hg,xX];unfold kT;rw [if_neg h2,if_pos h3];rfl
  clear hg yN yL yM h2 h3;go_wp2_with fail
  refine (Hb.out).mono ?_;rintro e w8 ⟨rfl,eG⟩;have T8:=(T).below eG;have l1:=(T8.lv 1 rfl).all;have T9:Mem w _ [.loc Y (bG s As cA) 124,.loc Z #[.int .i64 g.q.v.k,.string g.q.v.t,.int .i64 g.q.v.n] 174]:=((T8.set 1 0 (.int .i64 g.q.v.k) rfl).set 1 1 (.string g.q.v.t) rfl).set 1 2 (.int .i64 g.q.v.n) rfl;clear eG T8;go_wp2_with fail
  exact bodyPost_ret (fK rfl rfl (tN (T9.lv 1 rfl))) rfl ⟨by rw [Hg.out],T9.b⟩
 have e3:(s.how==3)=false:=by simpa using h3
 by_cases h4:s.how=4
 ·have e4:(s.how==4)=true:=by simpa using h4
  have hmm:=@run_makeMap Tryz.prog;obtain ⟨X,hX⟩:∃ X,X=w1.heap.size:=⟨_,rfl⟩;obtain ⟨U,hU⟩:∃ U,U=w1.heap.size + 1:=⟨_,rfl⟩;have T1:=(T.zD rW X hX).newAt #[.map (some X)] 315 U (by rw [hU,World.size_alloc]);replace T1:Mem w ((w1.alloc (.map #[] 0)).alloc (.cells #[.map (some X)] 315)) [.loc Y (bG s As cA) 124,.loc Z #[.int .i64 0,.string ⟨#[]⟩,.int .i64 0] 174,.aJ rW X [],.loc U #[.map (some X)] 315]:=T1;have ag4:Below w1.heap.size w1 ((w1.alloc (.map #[] 0)).alloc (.cells #[.map (some X)] 315)):=((ZX _ _).alloc (Z5 _) _).alloc (by simp) _;obtain ⟨g,hg⟩:∃ g,dS (fun x m=>decide (0 < qj (jR (xs.map aj.q)) x m)) x0 r0=g:=⟨_,rfl⟩;have Hg:Hid (g.q.v=V):=by
   show _=_;rw [← HV.out,← hg,xX];unfold kT;rw [if_neg h2,if_neg h3,if_pos h4,← Zt,Hxs.out];rfl
  have aaE:Hid (∀ (w':World) (L:List (Vt×Value)),Below w.heap.size w w'→vJ (xs.map aj.q) L→mO rW w' X L→LV w' U #[.map (some X)] 315→Calls Tryz.prog 259 #[.slice A n c,.func (.func 262) #[] #[.pointer (some ⟨U,0,none⟩)]] w' fun e w''=>e=.returned (.agg #[.int .i64 g.q.v.k,.string g.q.v.t,.int .i64 g.q.v.n])∧Below w'.heap.size w' w''):=fun w' L hb hL hM hlU=>by
   have h:=MZ 262 #[.pointer (some ⟨U,0,none⟩)] (jR (xs.map aj.q)) (enters_of Tryz.func262 (by kernel_rfl) rfl) N A x0 r0 n c w' (HS.out w' hb) Hn.out Hl.out (fun w'' a _ h=>agO U X L (xs.map aj.q) a w'' (LV.dQ hlU h hlU.lt) (by
    obtain ⟨es,cl,hb',he⟩:=hM;exact ⟨es,cl,(h.block X (Array.getElem?_eq_some_iff.1 hb').1).trans hb',he⟩) (hL a.q))
   rw [hg] at h;exact h
  have HSx:Hid (∀ w',Below w.heap.size w w'→Sl bU N w' A xs):=fun w' h=>by rw [← Hxs.out];exact HS.out w' h
  have o9:Hid (n=xs.length):=by show _=_;rw [← Hxs.out];exact Hn.out
  have hlx:xs.length≤1000000:=by rw [← Hxs.out];exact Hl.out
  have hnl:n≤1000000:=by have:=o9.out;omega
  clear hg yN yL yM h2 h3 h4 T;go_upto_region 8 with fail
  rw [← hU,← hX];clear hU hX hmm y0;generalize (w1.alloc (.map #[] 0)).alloc (.cells #[.map (some X)] 315)=w3 at *;go_wp2_with fail
  go_loopw [25] (fun ix wr=>∃ (k:Nat) (L:List (Vt×Value)),k≤n∧ix=.int .i64 k∧Hid (vJ ((xs.take k).map aj.q) L)∧Mem w wr [.loc Y (bG s As cA) 124,.loc Z #[.int .i64 0,.string ⟨#[]⟩,.int .i64 0] 174,.aJ rW X L,.loc U #[.map (some X)] 315]) (fun ix _=>n - (intOf ix).toNat)
  case atStart=>exact ⟨0,[],ZN _,rfl,vJ.start,T1⟩
  case round =>
   clear T1 ag4;obtain ⟨k,L,hk,rfl,HO,T⟩:=hrel;by_cases hlt:k < n
   ·obtain ⟨x,hx⟩:∃ x,xs[k]? =some x:=⟨_,Z8 (by have:=o9.out;omega)⟩;obtain ⟨bt,ot,rfl,hbt,d0,d1,d2,d3,d4,d5,d6,d7⟩:=(HSx.out wr T.b).wK k x hx;have su:Hid (vJ ((xs.take (k + 1)).map aj.q) (bI x.q.v (.int .i64 (jR ((xs.take k).map aj.q) x.q + 1)) L)):=by
     show vJ _ _;rw [take_snoc hx,ZP];exact HO.out.add x.q
    have SA:=Z9 (HO.out x.q);have hcr:=ag2 ((xs.take k).map aj.q) x.q;rw [ZW,ZR] at hcr;obtain ⟨cn,hcn⟩:∃ cn,jR ((xs.take k).map aj.q) x.q=cn:=⟨_,rfl⟩;rw [hcn] at su SA hcr;have hcb:-1≤cn∧cn≤1000000:=by omega
    obtain ⟨W,hW⟩:∃ W,W=wr.heap.size:=⟨_,rfl⟩;have S4:Mem w (wr.alloc (.cells (aG x) 266)) [.loc W (aG x) 266,.loc Y (bG s As cA) 124,.loc Z #[.int .i64 0,.string ⟨#[]⟩,.int .i64 0] 174,.aJ rW X L,.loc U #[.map (some X)] 315]:=(T.newAt (aG x) 266 W hW).front;clear hx HO hcn hcr;go_upto_region 11 with fail
    rw [← hW];clear hW T d0 d1 d2 d3 d4 d5 d6 d7 hbt;generalize wr.alloc (.cells (aG x) 266)=w5 at *;go_wp2_with fail
    refine wJ [] (fun w'=>LV w' W (aG x) 266∧LV w' U #[.map (some X)] 315) (.q 0 (.p 1 (.q 2 (.e2 3 (.p 4 (.e 5 (.p 6 (.e 7 .z)))) 5 (.p 6 (.e 3 (.p 4 (.e 7 .z)))))))) (by kernel_rfl) (by kernel_rfl) (fun w' hd=>⟨(S4.below (hd.below _)).lv 0 rfl,(S4.below (hd.below _)).lv 4 rfl⟩) (fun KK aF wd hd=>?_);have S5:=S4.below (hd.below _);clear hd S4;refine jc (.map (some X)) rfl rfl rfl rfl (fun w' h=>eX rfl (h.2.cell 0 _ rfl)) ?_;refine dN ?_;refine jc (.agg #[.int .i64 x.q.v.k,.string x.q.v.t,.int .i64 x.q.v.n]) rfl rfl rfl rfl (fun w' h=>ag3 (h.1.cell 5 _ rfl) (h.1.cell 6 _ rfl) (h.1.cell 7 _ rfl)) ?_;go_simp;have hwr:IntKind.i64.wrap (cn + 1)=cn + 1:=IntWalk.i64_in _ (by omega);refine EW (qM rfl rfl (fun K9 hK9=>?_)) (qM rfl rfl (fun K9 hK9=>?_))
    ·refine S5.SB (K:=rW) 3 rfl (T:=315) (E:=3) (by kernel_rfl) xu rfl _ _ false rfl rfl x.q.v rfl ?_;rw [if_neg (by decide),SA.out];go_wp2_with fail
     refine ⟨⟨S5.lv 0 rfl,S5.lv 4 rfl⟩,?_⟩;refine dN ?_;refine gX rfl rfl (fun K9 hK9=>?_);refine S5.JI (K:=rW) 3 rfl (T:=315) (E:=3) (by kernel_rfl) xu rfl _ _ rfl rfl x.q.v rfl ?_;intro st w7 S7 _;have sD:LV w7 W (aG x) 266∧LV w7 U #[.map (some X)] 315:=⟨S7.lv 0 rfl,S7.lv 4 rfl⟩;clear S5;go_wp2_with fail
     refine ⟨sD,?_⟩;clear sD;refine dN ?_;refine gX rfl rfl (fun K9 hK9=>?_);refine S7.JJ 3 rfl rfl _ _ _ rfl rfl rfl (.int .i64 (cn + 1)) rfl ?_;intro w9 S9;rw [JK] at S9;have eU:Hid (Mem w w9 [.loc W (aG x) 266,.loc Y (bG s As cA) 124,.loc Z #[.int .i64 0,.string ⟨#[]⟩,.int .i64 0] 174,.aJ rW X (bI x.q.v (.int .i64 (cn + 1)) L),.loc U #[.map (some X)] 315]):=S9;have lS:LV w9 W (aG x) 266∧LV w9 U #[.map (some X)] 315:=⟨S9.lv 0 rfl,S9.lv 4 rfl⟩;clear S9 S7;go_wp2_with fail
     refine ⟨lS,?_⟩;clear lS;refine rJ ?_;simp only [Exit.then];refine aF _ _ ?_;clear aF KK;have aZ:=eU.out.del 0;clear eU;go_wp2_with fail
     go_roundw
     case rel=>exact ⟨k + 1,_,by omega,by go_num,su,aZ⟩
     case measure=>simp [intOf];omega
    ·refine S5.JI (K:=rW) 3 rfl (T:=315) (E:=3) (by kernel_rfl) xu rfl _ _ rfl rfl x.q.v rfl ?_;intro st w7 S7 _;have sD:LV w7 W (aG x) 266∧LV w7 U #[.map (some X)] 315:=⟨S7.lv 0 rfl,S7.lv 4 rfl⟩;clear S5;go_wp2_with fail
     refine ⟨sD,?_⟩;refine dN ?_;refine gX rfl rfl (fun K9 hK9=>?_);refine S7.aaF 3 rfl (T:=315) (E:=3) (by kernel_rfl) xu rfl _ _ false rfl rfl x.q.v rfl ?_;rw [if_neg (by decide),tY,if_pos rfl,Option.getD_some,SA.out];go_wp2_with fail
     refine ⟨sD,?_⟩;clear sD;refine dN ?_;refine gX rfl rfl (fun K9 hK9=>?_);refine S7.JJ 3 rfl rfl _ _ _ rfl rfl rfl (.int .i64 (cn + 1)) rfl ?_;intro w9 S9;rw [JK] at S9;have eU:Hid (Mem w w9 [.loc W (aG x) 266,.loc Y (bG s As cA) 124,.loc Z #[.int .i64 0,.string ⟨#[]⟩,.int .i64 0] 174,.aJ rW X (bI x.q.v (.int .i64 (cn + 1)) L),.loc U #[.map (some X)] 315]):=S9;have lS:LV w9 W (aG x) 266∧LV w9 U #[.map (some X)] 315:=⟨S9.lv 0 rfl,S9.lv 4 rfl⟩;clear S9 S7;go_wp2_with fail
     refine ⟨lS,?_⟩;clear lS;refine rJ ?_;simp only [Exit.then];refine aF _ _ ?_;clear aF KK;have aZ:=eU.out.del 0;clear eU;go_wp2_with fail
     go_roundw
     case rel=>exact ⟨k + 1,_,by omega,by go_num,su,aZ⟩
     case measure=>simp [intOf];omega
   ·obtain rfl:k=n:=by omega
    have su:Hid (vJ (xs.map aj.q) L):=by
     have h:=HO.out;rw [List.take_of_length_le (by have:=o9.out;omega)] at h;exact h
    have JL:=Z9 (aaE.out wr L T.b su.out (T.ok _ (.tail _ (.tail _ (.head _)))) (T.lv 3 rfl));have T7:=(T.del 3).del 2;clear T HO aaE;go_wp2_with fail
    refine (JL.out).mono ?_;rintro e w8 ⟨rfl,eG⟩;have T8:=(T7).below eG;have l1:=(T8.lv 1 rfl).all;have T9:Mem w _ [.loc Y (bG s As cA) 124,.loc Z #[.int .i64 g.q.v.k,.string g.q.v.t,.int .i64 g.q.v.n] 174]:=((T8.set 1 0 (.int .i64 g.q.v.k) rfl).set 1 1 (.string g.q.v.t) rfl).set 1 2 (.int .i64 g.q.v.n) rfl;clear eG T8;go_wp2_with fail
    exact bodyPost_ret (fK rfl rfl (tN (T9.lv 1 rfl))) rfl ⟨by rw [Hg.out],T9.b⟩
 have e4:(s.how==4)=false:=by simpa using h4
 by_cases h5:s.how=5
 ·have e5:(s.how==5)=true:=by simpa using h5
  have Hb:=Z9 (MZ 263 #[.pointer (some ⟨Y,0,none⟩)] (xU s.srcs) (enters_of Tryz.func263 (by kernel_rfl) rfl) N A x0 r0 n c w1 (HS.out w1 T.b) Hn.out Hl.out (fun w' a ha h=>agQ N Y s As cA a w' (LV.dQ (T.lv 0 rfl) h (T.lv 0 rfl).lt) (HS2.out w' (T.b.trans (h.mono T.b.size))) hsl));obtain ⟨g,hg⟩:∃ g,dS (fun x m=>decide (0 < qj (xU s.srcs) x m)) x0 r0=g:=⟨_,rfl⟩;rw [hg] at Hb;have Hg:Hid (g.q.v=V):=by
   show _=_;rw [← HV.out,← hg,xX];unfold kT;rw [if_neg h2,if_neg h3,if_neg h4,if_pos h5];rfl
  clear hg yN yL yM h2 h3 h4 h5;go_wp2_with fail
  refine (Hb.out).mono ?_;rintro e w8 ⟨rfl,eG⟩;have T8:=(T).below eG;have l1:=(T8.lv 1 rfl).all;have T9:Mem w _ [.loc Y (bG s As cA) 124,.loc Z #[.int .i64 g.q.v.k,.string g.q.v.t,.int .i64 g.q.v.n] 174]:=((T8.set 1 0 (.int .i64 g.q.v.k) rfl).set 1 1 (.string g.q.v.t) rfl).set 1 2 (.int .i64 g.q.v.n) rfl;clear eG T8;go_wp2_with fail
  exact bodyPost_ret (fK rfl rfl (tN (T9.lv 1 rfl))) rfl ⟨by rw [Hg.out],T9.b⟩
 have e5:(s.how==5)=false:=by simpa using h5
 by_cases jT:s.how=6∨s.how=7
 ·have Hct:=Z9 (ag0 A xs c w1 (N:=N) (by rw [← Hxs.out];exact HS.out w1 T.b) (by rw [← Hxs.out];exact Hl.out));have o9:Hid (n=xs.length):=by show _=_;rw [← Hxs.out];exact Hn.out
  rw [← o9.out] at Hct;obtain ⟨ct,hct⟩:∃ ct,xs.any oM=ct:=⟨_,rfl⟩;rw [hct] at Hct;have mY:=Z9 hct;obtain ⟨b6,hb6⟩:∃ b6,(s.how==6)=b6:=⟨_,rfl⟩;obtain ⟨b7,hb7⟩:∃ b7,(s.how==7)=b7:=⟨_,rfl⟩;have N7:Hid ((b6=true∧b7=false∧s.how=6)∨(b6=false∧b7=true∧s.how=7)):=by
   rcases jT with h | h
   ·exact .inl ⟨by rw [← hb6,h];rfl,by rw [← hb7,h];rfl,h⟩
   ·exact .inr ⟨by rw [← hb6,h];rfl,by rw [← hb7,h];rfl,h⟩
  clear hct;have N8:Hid ((x0.q::r0.map aj.q).filter (fun x=> !jw x)=(xs.filter oM).map aj.q):=by
   show _=_;rw [← Zt,Hxs.out,List.filter_map];rfl
  cases ct with
  | false =>
   obtain ⟨g,hg⟩:∃ g,dS (fun x m=>decide (0 < ou x m)) x0 r0=g:=⟨_,rfl⟩;have Hg:Hid (g.q.v=V):=by
    have h0:xs.filter oM=[]:=by
     rw [List.filter_eq_nil_iff];intro y hy hh;have:=List.any_eq_true.2 ⟨y,hy,hh⟩
     rw [mY.out] at this;cases this
    show _=_;rw [← HV.out,← hg,xX];unfold kT;rw [if_neg h2,if_neg h3,if_neg h4,if_neg h5,if_pos jT,N8.out,h0];rfl
   have N9:Hid (∀ w',Below w1.heap.size w1 w'→Calls Tryz.prog 270 #[.slice A n c,.func (.func 258) #[] #[]] w' fun e w''=>e=.returned (.agg (aG g))∧Below w'.heap.size w' w''):=fun w' h=>by rw [← hg];exact yN.out w' h
   clear hg yN yL yM h2 h3 h4 h5 jT N8 mY;rcases N7.out with ⟨rfl,rfl,_⟩ | ⟨rfl,rfl,_⟩
   ·go_wp2_with fail
    refine (Hct.out).mono ?_;rintro e w2 ⟨rfl,hl2⟩;replace T:=T.below hl2;have iU:=Z9 (N9.out w2 hl2);clear y0 hl2 Hct N9;go_wp2_with fail
    refine (iU.out).mono ?_;rintro e w8 ⟨rfl,eG⟩;have T8:=T.below eG;have hfd:=Jf g.q.no g.q.at' g.q.v.k g.q.v.n g.q.src g.q.v.t (.slice g.A g.n g.c) (.slice g.B g.m g.d) ⟨_,_,_,rfl⟩ ⟨_,_,_,rfl⟩;have l1:=(T8.lv 1 rfl).all;have T9:Mem w _ [.loc Y (bG s As cA) 124,.loc Z #[.int .i64 g.q.v.k,.string g.q.v.t,.int .i64 g.q.v.n] 174]:=((T8.set 1 0 (.int .i64 g.q.v.k) rfl).set 1 1 (.string g.q.v.t) rfl).set 1 2 (.int .i64 g.q.v.n) rfl;clear T eG T8;go_wp2_with fail
    exact bodyPost_ret (fK rfl rfl (tN (T9.lv 1 rfl))) rfl ⟨by rw [Hg.out],T9.b⟩
   ·go_wp2_with fail
    refine (Hct.out).mono ?_;rintro e w2 ⟨rfl,hl2⟩;replace T:=T.below hl2;have iU:=Z9 (N9.out w2 hl2);clear y0 hl2 Hct N9;go_wp2_with fail
    refine (iU.out).mono ?_;rintro e w8 ⟨rfl,eG⟩;have T8:=T.below eG;have hfd:=Jf g.q.no g.q.at' g.q.v.k g.q.v.n g.q.src g.q.v.t (.slice g.A g.n g.c) (.slice g.B g.m g.d) ⟨_,_,_,rfl⟩ ⟨_,_,_,rfl⟩;have l1:=(T8.lv 1 rfl).all;have T9:Mem w _ [.loc Y (bG s As cA) 124,.loc Z #[.int .i64 g.q.v.k,.string g.q.v.t,.int .i64 g.q.v.n] 174]:=((T8.set 1 0 (.int .i64 g.q.v.k) rfl).set 1 1 (.string g.q.v.t) rfl).set 1 2 (.int .i64 g.q.v.n) rfl;clear T eG T8;go_wp2_with fail
    exact bodyPost_ret (fK rfl rfl (tN (T9.lv 1 rfl))) rfl ⟨by rw [Hg.out],T9.b⟩
  | true =>
   obtain ⟨z0,zr,hz⟩:∃ z0 zr,xs.filter oM=z0::zr:=by
    obtain ⟨y,hy,hh⟩:=List.any_eq_true.1 mY.out;cases hq:xs.filter oM with
    | nil=>exact absurd (List.mem_filter.2 ⟨hy,hh⟩) (by rw [hq];simp)
    | cons a b=>exact ⟨a,b,rfl⟩
   have Hz:=Z9 hz;have uT:=Z9 (fun w' (h:Below w1.heap.size w1 w')=>ag1 N A xs c w' (by rw [← Hxs.out];exact HS.out w' (T.b.trans (h.mono T.b.size))) (by rw [← Hxs.out];have:=Hl.out;omega));rw [← o9.out] at uT;clear hz yN yL yM;obtain ⟨sg,hsg⟩:∃ sg:Int,(if s.how=7 then -1 else 1)=sg:=⟨_,rfl⟩;have ag5:sg=1∨sg=-1:=by rw [← hsg];split <;> simp
   obtain ⟨g,hg⟩:∃ g,dS (fun x m=>decide (0 < qj (uK sg) x m)) z0 zr=g:=⟨_,rfl⟩;have Hg:Hid (g.q.v=V):=by
    show _=_;rw [← HV.out,← hg,xX];unfold kT;rw [if_neg h2,if_neg h3,if_neg h4,if_neg h5,if_pos jT,N8.out,Hz.out,hsg];rfl
   have FV:Hid (∀ (V9 n9 c9:Nat) (A9:Option Addr) (w':World),n9=(z0::zr).length→Sl bU (fun _=>False) w' A9 (z0::zr)→LV w' V9 #[.int .i64 sg] 3→Calls Tryz.prog 259 #[.slice A9 n9 c9,.func (.func 269) #[] #[.pointer (some ⟨V9,0,none⟩)]] w' fun e w''=>e=.returned (.agg #[.int .i64 g.q.v.k,.string g.q.v.t,.int .i64 g.q.v.n])∧Below w'.heap.size w' w''):=fun V9 n9 c9 A9 w' yO hS9 tZ=>by
    have hzm:∀ a∈z0::zr,a∈xs:=fun a ha=>by rw [← Hz.out] at ha;exact (List.mem_filter.1 ha).1
    have h:=MZ 269 #[.pointer (some ⟨V9,0,none⟩)] (uK sg) (enters_of Tryz.func269 (by kernel_rfl) rfl) (fun _=>False) A9 z0 zr n9 c9 w' hS9 yO (by rw [← Hz.out];have h1:=List.length_filter_le oM xs;have h2:=Hl.out;rw [Hxs.out] at h2;omega) (fun w'' a ha h=>agP V9 sg a w'' (LV.dQ tZ h tZ.lt) ag5 (kE.out a (by rw [Hxs.out];exact hzm a ha)).2);rw [hg] at h;exact h
   have AQ:=Z9 hsg;clear hg h2 h3 h4 h5 jT N8 mY hsg;rcases N7.out with ⟨rfl,rfl,h6⟩ | ⟨rfl,rfl,h7⟩
   ·obtain rfl:sg=1:=by rw [← AQ.out,if_neg (by rw [h6];decide)]
    clear h6;go_wp2_with fail
    refine (Hct.out).mono ?_;rintro e w2 ⟨rfl,hl2⟩;replace T:=T.below hl2;have JM:=Z9 (uT.out w2 hl2);clear y0 Hct uT;go_wp2_with fail
    refine (JM.out).mono ?_;rintro e w3 ⟨A3,c3,rfl,M3⟩;have JO:=Z9 (aaz (fun a=>jw a.q) 266 #[] (enters_of Tryz.func266 (by kernel_rfl) rfl) M3 (by rw [← Hxs.out];exact Hl.out) (fun y w' ys _ _=>Sm y w'));clear JM;go_wp2_with fail
    refine (JO.out).mono ?_;rintro e w4 ⟨v4,rfl,M4⟩;have JQ:Mem w2 w4 [.own bU w2.heap.size 266 v4 (z0::zr)]:=by
     have h:=M4;rw [show xs.filter (vI (fun a:aj=>jw a.q))=z0::zr from Hz.out] at h;exact h
    obtain ⟨A9,c9,rfl,M5⟩:=JQ.cO 0 rfl;have eU:=Z9 ((M5.slc 0 rfl).mono (M:=fun _=>False) (fun _ _ h=>h.elim));replace T:=T.below M5.b;obtain ⟨n9,yO⟩:∃ n9,(z0::zr).length=n9:=⟨_,rfl⟩;rw [yO];have SC:=Z9 yO.symm;clear JO M3 M4 JQ M5 yO;go_upto_region 21 with fail
    obtain ⟨V9,tZ⟩:∃ V9,V9=w4.heap.size:=⟨_,rfl⟩;have T5:Mem w (w4.alloc (.cells #[.int .i64 1] 3)) [.loc Y (bG s As cA) 124,.loc Z #[.int .i64 0,.string ⟨#[]⟩,.int .i64 0] 174,.loc V9 #[.int .i64 1] 3]:=T.newAt #[.int .i64 1] 3 V9 tZ;have wV:Below w4.heap.size w4 (w4.alloc (.cells #[.int .i64 1] 3)):=(ZX _ _).alloc (Z5 _) _;have HV9:Hid (w4.heap.size≤V9):=Nat.le_of_eq tZ.symm;rw [← tZ];clear tZ T;generalize w4.alloc (.cells #[.int .i64 1] 3)=w5 at *;have y0:=(T5.lv 0 rfl).all;have v0:=(T5.lv 2 rfl).all;have JL:=Z9 (FV.out V9 n9 c9 A9 w5 SC.out (eU.out.aK wV) (T5.lv 2 rfl));have T7:=T5.del 2;clear wV T5 FV;go_wp2_with fail
    refine (JL.out).mono ?_;rintro e w8 ⟨rfl,eG⟩;have T8:=(T7).below eG;have l1:=(T8.lv 1 rfl).all;have T9:Mem w _ [.loc Y (bG s As cA) 124,.loc Z #[.int .i64 g.q.v.k,.string g.q.v.t,.int .i64 g.q.v.n] 174]:=((T8.set 1 0 (.int .i64 g.q.v.k) rfl).set 1 1 (.string g.q.v.t) rfl).set 1 2 (.int .i64 g.q.v.n) rfl;clear eG T8;go_wp2_with fail
    exact bodyPost_ret (fK rfl rfl (tN (T9.lv 1 rfl))) rfl ⟨by rw [Hg.out],T9.b⟩
   ·obtain rfl:sg=-1:=by rw [← AQ.out,if_pos h7]
    clear h7;go_wp2_with fail
    refine (Hct.out).mono ?_;rintro e w2 ⟨rfl,hl2⟩;replace T:=T.below hl2;have JM:=Z9 (uT.out w2 hl2);clear y0 Hct uT;go_wp2_with fail
    refine (JM.out).mono ?_;rintro e w3 ⟨A3,c3,rfl,M3⟩;have JO:=Z9 (aaz (fun a=>jw a.q) 266 #[] (enters_of Tryz.func266 (by kernel_rfl) rfl) M3 (by rw [← Hxs.out];exact Hl.out) (fun y w' ys _ _=>Sm y w'));clear JM;go_wp2_with fail
    refine (JO.out).mono ?_;rintro e w4 ⟨v4,rfl,M4⟩;have JQ:Mem w2 w4 [.own bU w2.heap.size 266 v4 (z0::zr)]:=by
     have h:=M4;rw [show xs.filter (vI (fun a:aj=>jw a.q))=z0::zr from Hz.out] at h;exact h
    obtain ⟨A9,c9,rfl,M5⟩:=JQ.cO 0 rfl;have eU:=Z9 ((M5.slc 0 rfl).mono (M:=fun _=>False) (fun _ _ h=>h.elim));replace T:=T.below M5.b;obtain ⟨n9,yO⟩:∃ n9,(z0::zr).length=n9:=⟨_,rfl⟩;rw [yO];have SC:=Z9 yO.symm;clear JO M3 M4 JQ M5 yO;go_upto_region 21 with fail
    obtain ⟨V9,tZ⟩:∃ V9,V9=w4.heap.size:=⟨_,rfl⟩;have T5:Mem w (w4.alloc (.cells #[.int .i64 1] 3)) [.loc Y (bG s As cA) 124,.loc Z #[.int .i64 0,.string ⟨#[]⟩,.int .i64 0] 174,.loc V9 #[.int .i64 1] 3]:=T.newAt #[.int .i64 1] 3 V9 tZ;have wV:Below w4.heap.size w4 (w4.alloc (.cells #[.int .i64 1] 3)):=(ZX _ _).alloc (Z5 _) _;have HV9:Hid (w4.heap.size≤V9):=Nat.le_of_eq tZ.symm;rw [← tZ];clear tZ T;generalize w4.alloc (.cells #[.int .i64 1] 3)=w5 at *;have y0:=(T5.lv 0 rfl).all;have v0:=(T5.lv 2 rfl).all;have T6:Mem w (w5.setCell ⟨V9,0,none⟩ (.int .i64 (-1))) [.loc Y (bG s As cA) 124,.loc Z #[.int .i64 0,.string ⟨#[]⟩,.int .i64 0] 174,.loc V9 #[.int .i64 (-1)] 3]:=T5.set 2 0 (.int .i64 (-1)) rfl;have aaG:Below w4.heap.size w4 (w5.setCell ⟨V9,0,none⟩ (.int .i64 (-1))):=wV.setCell (p:=⟨V9,0,none⟩) HV9.out _;go_upto_region 23 with fail
    clear y0 v0;generalize w5.setCell ⟨V9,0,none⟩ (.int .i64 (-1))=w6 at *;have JL:=Z9 (FV.out V9 n9 c9 A9 w6 SC.out (eU.out.aK aaG) (T6.lv 2 rfl));have T7:=T6.del 2;clear wV aaG T5 T6 FV;go_wp2_with fail
    refine (JL.out).mono ?_;rintro e w8 ⟨rfl,eG⟩;have T8:=(T7).below eG;have l1:=(T8.lv 1 rfl).all;have T9:Mem w _ [.loc Y (bG s As cA) 124,.loc Z #[.int .i64 g.q.v.k,.string g.q.v.t,.int .i64 g.q.v.n] 174]:=((T8.set 1 0 (.int .i64 g.q.v.k) rfl).set 1 1 (.string g.q.v.t) rfl).set 1 2 (.int .i64 g.q.v.n) rfl;clear eG T8;go_wp2_with fail
    exact bodyPost_ret (fK rfl rfl (tN (T9.lv 1 rfl))) rfl ⟨by rw [Hg.out],T9.b⟩
 ·have e6:(s.how==6)=false:=by simpa using fun e=>jT (.inl e)
  have e7:(s.how==7)=false:=by simpa using fun e=>jT (.inr e)
  obtain ⟨g,hg⟩:∃ g,dS (fun x m=>decide (0 < ou x m)) x0 r0=g:=⟨_,rfl⟩;have Hm:=Z9 (yN.out w1 (ZX _ _));rw [hg] at Hm;have Hg:Hid (g.q.v=V):=by
   show _=_;rw [← HV.out,← hg,xX];unfold kT;rw [if_neg h2,if_neg h3,if_neg h4,if_neg h5,if_neg jT];rfl
  clear hg yN yL yM h2 h3 h4 h5 jT;go_wp2_with fail
  refine (Hm.out).mono ?_;rintro e w8 ⟨rfl,eG⟩;have T8:=T.below eG;have hfd:=Jf g.q.no g.q.at' g.q.v.k g.q.v.n g.q.src g.q.v.t (.slice g.A g.n g.c) (.slice g.B g.m g.d) ⟨_,_,_,rfl⟩ ⟨_,_,_,rfl⟩;have l1:=(T8.lv 1 rfl).all;have T9:Mem w _ [.loc Y (bG s As cA) 124,.loc Z #[.int .i64 g.q.v.k,.string g.q.v.t,.int .i64 g.q.v.n] 174]:=((T8.set 1 0 (.int .i64 g.q.v.k) rfl).set 1 1 (.string g.q.v.t) rfl).set 1 2 (.int .i64 g.q.v.n) rfl;clear T eG T8;go_wp2_with fail
  exact bodyPost_ret (fK rfl rfl (tN (T9.lv 1 rfl))) rfl ⟨by rw [Hg.out],T9.b⟩
end
section
open Go Go.RowKit
def wL (l:List Srv)(nm:ByteArray):Option Srv:=l.find? (fun y=>y.name.toList==nm.toList)
def Oa (xs:List Srv):Prop:=∀ (i j:Nat) (f g:Srv),i < j→xs[i]? =some f→xs[j]? =some g→eP f.name g.name=true
theorem ag6 {prev:Option ByteArray}{s:Srv}(h:wY prev s=0):1≤s.how∧s.how≤7∧∀ q,prev=some q→eP q s.name=true:=by
 unfold wY svE at h;split at h
 ·omega
 split at h
 ·omega
 rename_i h1 h2;split at h
 ·omega
 split at h
 ·omega
 rename_i h3 h4;have h5:Dp s.how=true:=by simpa using h2
 have h6:=of_decide_eq_true h5;refine ⟨h6.1,h6.2,fun q e=>?_⟩;subst e;simp only [Option.any_some,Bool.not_eq_true] at h4;unfold jf at h4;rw [Bool.or_eq_false_iff] at h4;exact Ob _ _ h4.1 h4.2
theorem aaH:∀ {l:List Srv} {prev:Option ByteArray},qw prev l=0→(∀ q,prev=some q→∀ s∈l,eP q s.name=true)∧l.Pairwise (fun a b=>eP a.name b.name=true)
 | [],_,_=>⟨(fun _ _ _ h=>by cases h),List.Pairwise.nil⟩
 | s::r,prev,h=>by
  rw [qw] at h;have hx:wY prev s=0:=by
   by_cases e:wY prev s≠0
   ·rw [if_pos e] at h;exact absurd h e
   ·omega
  rw [if_neg (by omega)] at h;obtain ⟨i1,i2⟩:=aaH h;obtain ⟨_,_,h3⟩:=ag6 hx;refine ⟨fun q e x hx=>?_,List.pairwise_cons.2 ⟨fun x hx=>i1 _ rfl x hx,i2⟩⟩;rcases List.mem_cons.1 hx with rfl | hx
  ·exact h3 q e
  ·exact yP (h3 q e) (i1 _ rfl x hx)
theorem Vy {r:aP}(h:jB r=0):Oa r.aX∧r.aX.length≤30:=by
 have h1:uY r.aX=0:=by
  unfold jB yE at h;split at h
  ·omega
  split at h
  ·omega
  split at h
  ·omega
  split at h
  ·omega
  split at h
  ·omega
  exact h
 unfold uY at h1;split at h1
 ·omega
 have h2:=(aaH h1).2;refine ⟨fun i j f g hij hi hj=>?_,by omega⟩;obtain ⟨hi',rfl⟩:=List.getElem?_eq_some_iff.1 hi;obtain ⟨hj',rfl⟩:=List.getElem?_eq_some_iff.1 hj;exact List.pairwise_iff_getElem.1 h2 i j hi' hj' hij
def ag7 (xs:List Srv)(nm:ByteArray)(w:World)(e:Ending)(w':World):Prop :=
 ∃ (i:Nat) (b:Bool),e=.returned (.tuple #[.int .i64 i,.bool b])∧i≤xs.length∧(b=true→∃ p,xs[i]? =some p∧wL xs nm=some p)∧(b=false→wL xs nm=none)∧Below w.heap.size w w'
theorem aaI (p:Srv)(At:Option Addr)(n ct:Nat)(nm:ByteArray)(w:World) :
  Calls Tryz.prog 198 #[.agg #[.string p.name,.int .i64 p.how,.slice At n ct],.string nm] w fun e w'=>e=.returned (.int .i64 (eY p.name nm))∧Below w.heap.size w w':=by
 have Hb:Hid (Below w.heap.size w (w.alloc (.cells #[.string p.name,.int .i64 p.how,.slice At n ct] 124))):=(ZX _ _).alloc (Z5 _) _;go_enter Tryz.func198,Tryz.ntmps198
 go_wp2_with fail
 refine (JU p.name nm _).mono ?_;rintro e _ ⟨rfl,rfl⟩;go_wp2_with fail
 go_ret;exact ⟨rfl,Hb.out⟩
theorem ag8 (N:Nat→Prop)(A:Option Addr)(xs:List Srv)(nm:ByteArray)(c:Nat)(w:World)(hS:Sl iQ N w A xs)(hn:xs.length≤1000)(kD:Oa xs) :
  Calls Tryz.prog 197 #[.slice A xs.length c,.string nm,.func (.func 198) #[] #[]] w (ag7 xs nm w):=by
 have HS:=Z9 hS;have jE:=Z9 kD;clear hS kD;go_enter Tryz.func197,Tryz.ntmps197
 go_wp2_with fail
 go_loopw [9,10] (fun a b wr=>∃ i j:Nat,i≤j∧j≤xs.length∧a=.int .i64 i∧b=.int .i64 j∧(∀ p f,p < i→xs[p]? =some f→eP f.name nm=true)∧(∀ p f,j≤p→xs[p]? =some f→eP f.name nm=false)∧Below w.heap.size w wr) (fun a b _=>(intOf b - intOf a).toNat)
 case atStart=>exact ⟨0,xs.length,by omega,by omega,rfl,rfl,(fun p f h=>by omega),(fun p f h hp=>by rw [ZG h] at hp;cases hp),ZX _ _⟩
 case round =>
  obtain ⟨i,j,hij,hj,rfl,rfl,hlo,hhi,hbl⟩:=hrel;have jI:=Z9 hlo;have jJ:=Z9 hhi;have hsz:=hbl.size;clear hlo hhi;by_cases hlt:i < j
  ·obtain ⟨h,hh⟩:∃ h:Nat,h=(i + j) / 2:=⟨_,rfl⟩;have h1:i≤h:=by omega
   have h2:h < j:=by omega
   have eh:((i:Int) + (j:Int)) / 2=(h:Int):=by omega
   clear hh;obtain ⟨f,hf⟩:∃ f,xs[h]? =some f:=⟨_,Z8 (by omega)⟩;have Hf:=Z9 hf;clear hf;obtain ⟨blk,off,At,ct,rfl,hblk,d0,d1,d2,_,_⟩:=(HS.out.aK hbl).srv _ f Hf.out;go_wp2_with fail
   refine (aaI f At f.srcs.length ct nm _).mono ?_;rintro e w1 ⟨rfl,bH⟩;have kH:=bH.size;have Hb1:Hid (Below w.heap.size w w1):=hbl.trans (bH.mono hsz);have qL:=Z9 (D7 f.name nm);generalize eY f.name nm=cm at *;clear d0 d1 d2;clear bH kH;by_cases hc:cm < 0
   ·have Hl:Hid (∀ p g,p < h + 1→xs[p]? =some g→eP g.name nm=true):=fun p g hp hg=>by
     by_cases vK:p=h
     ·subst vK;rw [Hf.out] at hg;cases hg;exact qL.out.1 hc
     ·exact yP (jE.out p h g f (by omega) hg Hf.out) (qL.out.1 hc)
    go_wp2_with fail
    go_roundw
    case rel=>exact ⟨h + 1,j,by omega,by omega,by go_num,rfl,Hl.out,jJ.out,Hb1.out⟩
    case measure=>simp [intOf];omega
   ·have hnl:eP f.name nm=false:=by
     cases hx:eP f.name nm
     ·rfl
     ·exact absurd (qL.out.2 hx) hc
    have Hl:Hid (∀ p g,h≤p→xs[p]? =some g→eP g.name nm=false):=fun p g hp hg=>by
     by_cases vK:p=h
     ·subst vK;rw [Hf.out] at hg;cases hg;exact hnl
     ·cases hx:eP g.name nm
      ·rfl
      ·rw [yP (jE.out h p f g (by omega) Hf.out hg) hx] at hnl;cases hnl
    clear hnl;go_wp2_with fail
    go_roundw
    case rel=>exact ⟨i,h,by omega,by omega,rfl,rfl,jI.out,Hl.out,Hb1.out⟩
    case measure=>simp [intOf];omega
  ·obtain rfl:i=j:=by omega
   have Hne:Hid (∀ p g,p≠i→xs[p]? =some g→g.name≠nm):=fun p g hp hg e=>by
    rcases YL p i with hlt | hge
    ·have:=jI.out p g hlt hg
     rw [e,zO] at this;cases this
    ·by_cases hli:i < xs.length
     ·have h3:=jE.out i p xs[i] g (by omega) (Z8 hli) hg;rw [e] at h3;rw [jJ.out i xs[i] (Z5 _) (Z8 hli)] at h3;cases h3
     ·have:=bM hg
      omega
   by_cases hlen:i < xs.length
   ·obtain ⟨f,hf⟩:∃ f,xs[i]? =some f:=⟨_,Z8 hlen⟩;have Hf:=Z9 hf;clear hf;obtain ⟨blk,off,At,ct,rfl,hblk,d0,d1,d2,_,_⟩:=(HS.out.aK hbl).srv _ f Hf.out;go_wp2_with fail
    refine (aaI f At f.srcs.length ct nm _).mono ?_;rintro e w1 ⟨rfl,bH⟩;have kH:=bH.size;have Hb1:Hid (Below w.heap.size w w1):=hbl.trans (bH.mono hsz);obtain ⟨cm,fO⟩:∃ cm,Hid (eY f.name nm=cm):=⟨_,Z9 rfl⟩;rw [fO.out];clear d0 d1 d2;clear bH kH;go_wp2_with fail
    go_ret2
    refine ⟨i,(cm==0),rfl,by omega,fun h=>⟨f,Hf.out,agr (nm:=Srv.name) jE.out Hf.out ((Ah _ _).1 (by rw [fO.out];simpa using h))⟩,fun h=>aam (nm:=Srv.name) fun p hp e=>?_,Hb1.out⟩;obtain ⟨q,hq⟩:=List.mem_iff_getElem?.1 hp;by_cases hqi:q=i
    ·subst hqi;rw [Hf.out] at hq;cases hq;rw [← fO.out,(Ah _ _).2 e] at h;cases h
    ·exact Hne.out q p hqi hq e
   ·go_wp2_with fail
    go_ret2
    refine ⟨i,false,rfl,by omega,(fun h=>by cases h),fun _=>aam (nm:=Srv.name) fun p hp e=>?_,hbl⟩;obtain ⟨q,hq⟩:=List.mem_iff_getElem?.1 hp;exact Hne.out q p (by have:=bM hq;omega) hq e
def pz (r:aP)(nm:ByteArray):Int:=match wL r.aX nm with | some s=>s.how | none=>1
def pF (r:aP)(nm:ByteArray):List ByteArray:=match wL r.aX nm with | some s=>s.srcs | none=>[]
theorem ag9 (G X:Nat)(r:aP)(K W S A:Option Addr)(ck cw cs c:Nat)(ts:List ak)(lC:List HQ)(nm:ByteArray)(M:Nat→Prop)(A5:Option Addr)(x0:aj)(r0:List aj)(n c5:Nat)(w:World)(hG:vM (fun _=>False) w G X r K W S A ck cw cs c ts lC)(hsv:Oa r.aX)(hsl:r.aX.length≤30)(hss:∀ s∈r.aX,s.srcs.length≤1000000)
  (hS:Sl bU M w A5 (x0::r0)) (hn:n=(x0::r0).length) (hl:(x0::r0).length≤1000000) (hok:∀ a∈x0::r0,a.q.v.t.size≤1000000∧-4611686018427387904≤a.q.v.n∧a.q.v.n≤4611686018427387904) :
  Calls Tryz.prog 119 #[.pointer (some ⟨G,0,none⟩),.string nm,.slice A5 n c5] w fun e w'=>e=.returned (.agg #[.int .i64 (kT (pz r nm) (pF r nm) x0.q (r0.map aj.q)).v.k,.string (kT (pz r nm) (pF r nm) x0.q (r0.map aj.q)).v.t,.int .i64 (kT (pz r nm) (pF r nm) x0.q (r0.map aj.q)).v.n])∧Below w.heap.size w w':=by
 have HG:=Z9 (fun w' (h:Below w.heap.size w w')=>(hG.aK h).g);have EU:=Z9 (fun w' (h:Below w.heap.size w w')=>(hG.aK h).r.sv);have HS5:=Z9 (fun w' (h:Below w.heap.size w w')=>hS.aK h);have G9:=Z9 hss;have kE:=Z9 hok;have Hn:=Z9 hn;have Hl:=Z9 hl;obtain ⟨V,hV⟩:∃ V,kT (pz r nm) (pF r nm) x0.q (r0.map aj.q)=V:=⟨_,rfl⟩;rw [hV];have HV:=Z9 hV;obtain ⟨Z,hZ⟩:∃ Z,Z=w.heap.size:=⟨_,rfl⟩;have T:Mem w (w.alloc (.cells #[.int .i64 0,.string ⟨#[]⟩,.int .i64 0] 174)) [.loc Z #[.int .i64 0,.string ⟨#[]⟩,.int .i64 0] 174]:=(Mem.start w).newAt _ 174 Z hZ;have JV:=Z9 (fun w' (h:Below w.heap.size w w')=>ag8 (fun _=>False) S r.aX nm cs w' (EU.out w' h) (by omega) hsv);clear hG hS hss hok hn hl hV hsv;go_enter Tryz.func119,Tryz.ntmps119
 go_upto_region 1 with fail
 rw [← hZ];clear hZ;generalize w.alloc (.cells #[.int .i64 0,.string ⟨#[]⟩,.int .i64 0] 174)=w1 at *;have g0:=(HG.out w1 T.b).all;go_wp2_with fail
 refine (JV.out w1 T.b).mono ?_;rintro e w2 ⟨i,b,rfl,hi,hbt,hbf,hl2⟩;have Hbt:=Z9 hbt;have JW:=Z9 hbf;have T2:=T.below hl2;clear T g0 hbt hbf hl2 JV;cases b
 ·have Hq:=JW.out rfl;have e1:pz r nm=1:=by unfold pz;rw [Hq]
  have e2:pF r nm=[]:=by unfold pF;rw [Hq]
  have hs:=aaC M ⟨⟨#[]⟩,1,[]⟩ none 0 A5 x0 r0 n c5 w2 Sl.nil (by simp) (HS5.out w2 T2.b) Hn.out Hl.out kE.out;have D8:=HV.out;rw [e1,e2] at D8;rw [show kT (Srv.how ⟨⟨#[]⟩,1,[]⟩) (Srv.srcs ⟨⟨#[]⟩,1,[]⟩) x0.q (r0.map aj.q)=V from D8] at hs;have Hs:Hid (Calls Tryz.prog 199 #[.agg #[.string ⟨#[]⟩,.int .i64 1,.slice none 0 0],.slice A5 n c5] w2 fun e w'=>e=.returned (.agg #[.int .i64 V.v.k,.string V.v.t,.int .i64 V.v.n])∧Below w2.heap.size w2 w'):=hs;clear hs;have z0:=(T2.lv 0 rfl).all;clear Hq e1 e2 D8;go_wp2_with fail
  refine (Hs.out).mono ?_;rintro e w3 ⟨rfl,hl3⟩;have T3:=T2.below hl3;have l1:=(T3.lv 0 rfl).all;have T9:Mem w _ [.loc Z #[.int .i64 V.v.k,.string V.v.t,.int .i64 V.v.n] 174]:=((T3.set 0 0 (.int .i64 V.v.k) rfl).set 0 1 (.string V.v.t) rfl).set 0 2 (.int .i64 V.v.n) rfl;clear T2 hl3 T3 z0;go_wp2_with fail
  exact bodyPost_ret (fK rfl rfl (tN (T9.lv 0 rfl))) rfl ⟨rfl,T9.b⟩
 ·obtain ⟨s,hsi,SE⟩:=Hbt.out rfl;have e1:pz r nm=s.how:=by unfold pz;rw [SE]
  have e2:pF r nm=s.srcs:=by unfold pF;rw [SE]
  obtain ⟨bs,os,As,cA,rfl,hbs,d0,d1,d2,_,hsr⟩:=(EU.out w2 T2.b).srv i s hsi;have hil:i < r.aX.length:=bM hsi;have Hs:=Z9 (aaC (fun _=>False) s As cA A5 x0 r0 n c5 w2 hsr (G9.out s (Z7 hsi)) ((HS5.out w2 T2.b).mono (fun _ _ h=>h.elim)) Hn.out Hl.out kE.out);have D8:=HV.out;rw [e1,e2] at D8;rw [D8] at Hs;have g0:=(HG.out w2 T2.b).all;clear hsi SE e1 e2 D8 hsr;go_wp2_with fail
  refine (Hs.out).mono ?_;rintro e w3 ⟨rfl,hl3⟩;have T3:=T2.below hl3;have l1:=(T3.lv 0 rfl).all;have T9:Mem w _ [.loc Z #[.int .i64 V.v.k,.string V.v.t,.int .i64 V.v.n] 174]:=((T3.set 0 0 (.int .i64 V.v.k) rfl).set 0 1 (.string V.v.t) rfl).set 0 2 (.int .i64 V.v.n) rfl;clear T2 hl3 T3 g0 d0 d1 d2;go_wp2_with fail
  exact bodyPost_ret (fK rfl rfl (tN (T9.lv 0 rfl))) rfl ⟨rfl,T9.b⟩
end
end Go.Proofs.YtmkkppknaikjjaaGreatDoor
