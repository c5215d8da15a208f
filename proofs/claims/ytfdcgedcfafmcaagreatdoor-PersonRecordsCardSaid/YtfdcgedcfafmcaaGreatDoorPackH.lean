/- Several texts in one: SurvC, DelTl, SurvP, SurvW, Survs. -/
import Derived.Test.YtfdcgedcfafmcaaGreatDoorPackA
import Derived.Test.YtfdcgedcfafmcaaGreatDoorPackC
import Derived.Test.YtfdcgedcfafmcaaGreatDoorPackN
import Derived.Test.YtfdcgedcfafmcaaGreatDoorPackQ
import Derived.Test.YtfdcgedcfafmcaaGreatDoorPackP
import Derived.Test.YtfdcgedcfafmcaaGreatDoorPackY
import Derived.Test.YtfdcgedcfafmcaaGreatDoorPackE
import Derived.Test.YtfdcgedcfafmcaaGreatDoorPackT
/- The measures of person.survivor. -/
namespace Go.Proofs.YtfdcgedcfafmcaaGreatDoor
section
open Go Go.RowKit
def lenMs (x:Tc):Int:=Lib.runeCount x.v.t
def cntMs (l:List Tc)(x:Tc):Int:=((l.filter (fun y=>decide (y.v=x.v))).length:Int)
def ixS (ss:List ByteArray)(s:ByteArray):Int:=Lib.idxOfS ss s
def srcMs (ss:List ByteArray)(x:Tc):Int:=if 0≤ixS ss x.src then -(ixS ss x.src) else -(ss.length:Int)
def numMs (sg:Int)(x:Tc):Int:=sg * x.v.n
def txtB (x:Tc):Bool:=x.v.k==1
theorem sv1_any (a:Tld)(w:World)(hs:a.q.v.t.size≤1000000):Calls Tryz.prog 174 #[.agg (tlCs a)] w fun e w'=>e=.returned (.int .i64 (lenMs a.q))∧Below w.heap.size w w':=by
 obtain ⟨X,hX⟩:∃ X,X=w.heap.size:=⟨_,rfl⟩;have T:Mem w (w.alloc (.cells (tlCs a) 110)) [.loc X (tlCs a) 110]:=(Mem.start w).newAt _ 110 X hX;have Hr:=Lib.hid (fun w'=>runeCount_any a.q.v.t w' hs);unfold lenMs
 go_enter Tryz.func174,Tryz.ntmps174
 go_upto_region 1 with fail
 rw [← hX];clear hX;generalize w.alloc (.cells (tlCs a) 110)=w1 at *;have l0:=(T.lv 0 rfl).all
 go_wp2_with fail
 ((with_reducible refine (Hr.out w1).mono ?_);rintro e w2 ⟨rfl,hl2⟩)
 have Hb:=Lib.hid (T.below hl2).b;clear T hl2 l0 Hr
 go_wp2_with fail
 go_ret
 exact ⟨rfl,Hb.out⟩
theorem textual_any (a:Tld)(w:World):Calls Tryz.prog 181 #[.agg (tlCs a)] w fun e w'=>e=.returned (.bool (txtB a.q))∧Below w.heap.size w w':=by
 obtain ⟨X,hX⟩:∃ X,X=w.heap.size:=⟨_,rfl⟩;have T:Mem w (w.alloc (.cells (tlCs a) 110)) [.loc X (tlCs a) 110]:=(Mem.start w).newAt _ 110 X hX;have Hb:=Lib.hid T.b;unfold txtB
 go_enter Tryz.func181,Tryz.ntmps181
 go_upto_region 1 with fail
 rw [← hX];clear hX;generalize w.alloc (.cells (tlCs a) 110)=w1 at *;have l0:=(T.lv 0 rfl).all
 go_wp2_with fail
 go_ret
 exact ⟨by first | rfl | simp,Hb.out⟩
theorem sv4_any (a:Tld)(w:World):Calls Tryz.prog 180 #[.agg (tlCs a)] w fun e w'=>e=.returned (.bool (!txtB a.q))∧Below w.heap.size w w':=by
 obtain ⟨X,hX⟩:∃ X,X=w.heap.size:=⟨_,rfl⟩;have T:Mem w (w.alloc (.cells (tlCs a) 110)) [.loc X (tlCs a) 110]:=(Mem.start w).newAt _ 110 X hX;have Ht:=Lib.hid (fun w'=>textual_any a w');obtain ⟨tb,htb⟩:∃ tb,txtB a.q=tb:=⟨_,rfl⟩;rw [htb] at Ht ⊢;clear htb
 go_enter Tryz.func180,Tryz.ntmps180
 go_upto_region 1 with fail
 rw [← hX];clear hX;generalize w.alloc (.cells (tlCs a) 110)=w1 at *;have l0:=(T.lv 0 rfl).all
 go_wp2_with fail
 ((with_reducible refine (Ht.out w1).mono ?_);rintro e w2 ⟨rfl,hl2⟩)
 have Hb:=Lib.hid (T.below hl2).b;clear T hl2 l0 Ht
 go_wp2_with fail
 go_ret
 exact ⟨by first | rfl | simp,Hb.out⟩
theorem sv2_any (U X:Nat)(L:List (Vt×Value))(l:List Tc)(a:Tld)(w:World)(hU:LV w U #[.map (some X)] 238)(hM:MapG keyVt w X L)(hL:(getG a.q.v L).getD (.int .i64 0)=.int .i64 (cntMs l a.q)):Calls Tryz.prog 176 #[.agg (tlCs a),.pointer (some ⟨U,0,none⟩)] w fun e w'=>e=.returned (.int .i64 (cntMs l a.q))∧Below w.heap.size w w':=by
 obtain ⟨Y,hY⟩:∃ Y,Y=w.heap.size:=⟨_,rfl⟩;have T:Mem w (w.alloc (.cells (tlCs a) 110)) [.loc Y (tlCs a) 110]:=(Mem.start w).newAt _ 110 Y hY;have u0:=(LV.kb3 hU T.b hU.lt).all;have hM1:MapG keyVt (w.alloc (.cells (tlCs a) 110)) X L:=by
  obtain ⟨es,cl,hb,he⟩:=hM;exact ⟨es,cl,(T.b.block X (Array.getElem?_eq_some_iff.1 hb).1).trans hb,he⟩
 have hlk:=look_g (K:=keyVt) (T:=238) (E:=3) (z:=.int .i64 0) hM1 (by kernel_rfl) (by kernel_rfl) a.q.v false;rw [if_neg (by decide),hL] at hlk;replace hlk:(Instr.lookup 238 (.map (some X)) (.agg #[.int .i64 a.q.v.k,.string a.q.v.t,.int .i64 a.q.v.n]) false).run Tryz.prog (w.alloc (.cells (tlCs a) 110))=.ok (.int .i64 (cntMs l a.q)) (w.alloc (.cells (tlCs a) 110)):=hlk;have Hb:=Lib.hid T.b;obtain ⟨cn,hcn⟩:∃ cn,cntMs l a.q=cn:=⟨_,rfl⟩;rw [hcn] at hlk ⊢;clear hM hM1 hL hU hcn
 go_enter Tryz.func176,Tryz.ntmps176
 go_upto_region 1 with fail
 rw [← hY];clear hY;generalize w.alloc (.cells (tlCs a) 110)=w1 at *;have l0:=(T.lv 0 rfl).all
 go_wp2_with fail
 go_ret
 exact ⟨rfl,Hb.out⟩
theorem sv5_any (V:Nat)(sg:Int)(a:Tld)(w:World)(hV:LV w V #[.int .i64 sg] 3)(hs:sg=1∨sg=-1)(hn:-4611686018427387904≤a.q.v.n∧a.q.v.n≤4611686018427387904):Calls Tryz.prog 184 #[.agg (tlCs a),.pointer (some ⟨V,0,none⟩)] w fun e w'=>e=.returned (.int .i64 (numMs sg a.q))∧Below w.heap.size w w':=by
 obtain ⟨Y,hY⟩:∃ Y,Y=w.heap.size:=⟨_,rfl⟩;have T:Mem w (w.alloc (.cells (tlCs a) 110)) [.loc Y (tlCs a) 110]:=(Mem.start w).newAt _ 110 Y hY;have u0:=(LV.kb3 hV T.b hV.lt).all;have Hb:=Lib.hid T.b;obtain ⟨nm,hnm⟩:∃ nm,numMs sg a.q=nm:=⟨_,rfl⟩;have hwr:IntKind.i64.wrap (sg * a.q.v.n)=nm:=by
  rw [← hnm];unfold numMs;rcases hs with rfl | rfl
  ·simp [IntKind.wrap,IntKind.bits,IntKind.signed];omega
  ·simp [IntKind.wrap,IntKind.bits,IntKind.signed];omega
 rw [hnm];clear hV hs hn hnm
 go_enter Tryz.func184,Tryz.ntmps184
 go_upto_region 1 with fail
 rw [← hY];clear hY;generalize w.alloc (.cells (tlCs a) 110)=w1 at *;have l0:=(T.lv 0 rfl).all
 go_wp2_with fail
 go_ret
 exact ⟨by first | rfl | (rw [hwr]) | simp [hwr],Hb.out⟩
theorem ixFrom_rng (s:ByteArray):∀ (ss:List ByteArray) (i:Nat),-1≤Lib.idxFromS ss s i∧Lib.idxFromS ss s i≤(i:Int) + ss.length
 | [],i=>by
  rw [Lib.idxFromS];simp only [List.length_nil]
  omega
 | y::r,i=>by
  have h:=ixFrom_rng s r (i + 1);rw [Lib.idxFromS];simp only [List.length_cons]
  split
  ·omega
  ·omega
theorem ixS_rng (ss:List ByteArray)(s:ByteArray):-1≤ixS ss s∧ixS ss s≤ss.length:=by
 have h:=ixFrom_rng s ss 0;unfold ixS Lib.idxOfS;omega
theorem indexS_any (N:Nat→Prop)(A:Option Addr)(ss:List ByteArray)(c:Nat)(x:ByteArray)(w:World)(hS:Sl rStr N w A ss)(hl:ss.length≤1000000) :
  Calls Tryz.prog 178 #[.slice A ss.length c,.string x] w fun e w'=>e=.returned (.int .i64 (ixS ss x))∧w=w':=by
 unfold ixS;cases hss:ss with
 | nil =>
  refine (Tryz.slices_Index_string_empty A c x w).mono ?_;rintro e w' ⟨rfl,rfl⟩;exact ⟨rfl,rfl⟩
 | cons y r =>
  rw [← hss];have hne:ss≠[]:=by rw [hss];exact List.cons_ne_nil _ _
  have h0:∃ b o,A=some ⟨b,o,none⟩∧∀ j,j < ss.length→w.cell? ⟨b,o + j,none⟩=some (.string (ss.getD j ByteArray.empty)):=by
   obtain ⟨b,o,e,_,_⟩:=hS.str 0 y (by rw [hss];rfl);refine ⟨b,o,e,fun j hj=>?_⟩;obtain ⟨b2,o2,e2,_,hc⟩:=hS.str j ss[j] (List.getElem?_eq_getElem hj);rw [e] at e2;simp only [Option.some.injEq,Addr.mk.injEq,and_true] at e2
   obtain ⟨rfl,rfl⟩:=e2;rw [hc,List.getD_eq_getElem?_getD,List.getElem?_eq_getElem hj];rfl
  obtain ⟨b,o,rfl,hc⟩:=h0;refine (Tryz.slices_Index_string b o ss.length c ss x w (Nat.le_refl _) (by omega) hc).mono ?_;rintro e w' ⟨rfl,rfl⟩;exact ⟨by rw [List.take_length],rfl⟩
theorem sv3_any (N:Nat→Prop)(Y:Nat)(s:Srv)(A:Option Addr)(c:Nat)(a:Tld)(w:World)(hY:LV w Y (svCs s A c) 131)(hS:Sl rStr N w A s.srcs)(hl:s.srcs.length≤1000000):Calls Tryz.prog 177 #[.agg (tlCs a),.pointer (some ⟨Y,0,none⟩)] w fun e w'=>e=.returned (.int .i64 (srcMs s.srcs a.q))∧Below w.heap.size w w':=by
 obtain ⟨X,hX⟩:∃ X,X=w.heap.size:=⟨_,rfl⟩;have T:Mem w (w.alloc (.cells (tlCs a) 110)) [.loc X (tlCs a) 110]:=(Mem.start w).newAt _ 110 X hX;have u0:=(LV.kb3 hY T.b hY.lt).all;have Hix:=Lib.hid (indexS_any N A s.srcs c a.q.src _ (hS.keepB T.b) hl);have hrg:=ixS_rng s.srcs a.q.src;unfold srcMs;have Hb:=Lib.hid T.b;obtain ⟨ix,hix⟩:∃ ix,ixS s.srcs a.q.src=ix:=⟨_,rfl⟩;rw [hix] at Hix hrg ⊢;obtain ⟨R,HR⟩:∃ R,Hid ((if 0≤ix then -ix else -(s.srcs.length:Int))=R):=⟨_,Lib.hid rfl⟩;rw [HR.out];clear hix hY hS
 go_enter Tryz.func177,Tryz.ntmps177
 go_upto_region 1 with fail
 rw [← hX];clear hX;generalize w.alloc (.cells (tlCs a) 110)=w1 at *;have l0:=(T.lv 0 rfl).all
 go_wp2_with fail
 ((with_reducible refine (Hix.out).mono ?_);rintro e _ ⟨rfl,rfl⟩)
 by_cases h:0≤ix
 ·have Hn:Hid (-ix=R):=by show _=_;rw [← HR.out,if_pos h]
  have hwr:IntKind.i64.wrap (-ix)=-ix:=by simp [IntKind.wrap,IntKind.bits,IntKind.signed];omega
  clear HR
  go_wp2_with fail
  go_ret
  exact ⟨by first | exact ret_i Hn.out | (rw [hwr];exact ret_i Hn.out),Hb.out⟩
 ·have Hn:Hid (-(s.srcs.length:Int)=R):=by show _=_;rw [← HR.out,if_neg h]
  have hwr:IntKind.i64.wrap (-(s.srcs.length:Int))=-(s.srcs.length:Int):=by simp [IntKind.wrap,IntKind.bits,IntKind.signed];omega
  clear HR
  go_wp2_with fail
  go_ret
  exact ⟨by first | exact ret_i Hn.out | (rw [hwr];exact ret_i Hn.out),Hb.out⟩
end
section
open Go Go.RowKit
theorem Own.tldAt {M:Nat→Prop}{B E g n cap:Nat}{w:World}{xs:List Tld}(h:Own rTld M B E w (.slice (some ⟨g,0,none⟩) n cap) xs)(hn:n=xs.length)(k:Nat)(x:Tld)(hk:xs[k]? =some x) :
  (w.cell? ⟨g,k * 8,none⟩=some (.int .i64 x.q.no)∧w.cell? ⟨g,k * 8 + 1,none⟩=some (.int .i64 x.q.at')∧w.cell? ⟨g,k * 8 + 2,none⟩=some (.string x.q.src)∧w.cell? ⟨g,k * 8 + 3,none⟩=some (.slice x.A x.n x.c)∧w.cell? ⟨g,k * 8 + 4,none⟩=some (.slice x.B x.m x.d)∧w.cell? ⟨g,k * 8 + 5,none⟩=some (.int .i64 x.q.v.k)∧w.cell? ⟨g,k * 8 + 6,none⟩=some (.string x.q.v.t)∧w.cell? ⟨g,k * 8 + 7,none⟩=some (.int .i64 x.q.v.n)) ∧
  ∀ j,j < 8→w.frozen? ⟨g,k * 8 + j,none⟩=false :=
 ⟨⟨(h.cellP flatTld hn k x hk 0 _ rfl).1,(h.cellP flatTld hn k x hk 1 _ rfl).1,(h.cellP flatTld hn k x hk 2 _ rfl).1,(h.cellP flatTld hn k x hk 3 _ rfl).1,(h.cellP flatTld hn k x hk 4 _ rfl).1,(h.cellP flatTld hn k x hk 5 _ rfl).1,(h.cellP flatTld hn k x hk 6 _ rfl).1,(h.cellP flatTld hn k x hk 7 _ rfl).1⟩,fun j hj=>by
  obtain ⟨u,hu⟩:∃ u,(Tld.cells x)[j]? =some u:=⟨_,List.getElem?_eq_getElem hj⟩;exact (h.cellP flatTld hn k x hk j u hu).2⟩
theorem Mem.putTld {w0 w:World}{cs:List Chunk}(S:Mem w0 w cs)(i:Nat){B E g n cap:Nat}{ys:List Tld}(hi:cs[i]? =some (.own rTld B E (.slice (some ⟨g,0,none⟩) n cap) ys))(hn:n=ys.length)(p:Nat)(z x:Tld)(hz:ys[p]? =some z) :
  Mem w0 ((((((((w.setCell ⟨g,p * 8,none⟩ (.int .i64 x.q.no)).setCell ⟨g,p * 8 + 1,none⟩ (.int .i64 x.q.at')).setCell ⟨g,p * 8 + 2,none⟩ (.string x.q.src)).setCell ⟨g,p * 8 + 3,none⟩ (.slice x.A x.n x.c)).setCell ⟨g,p * 8 + 4,none⟩ (.slice x.B x.m x.d)).setCell ⟨g,p * 8 + 5,none⟩ (.int .i64 x.q.v.k)).setCell ⟨g,p * 8 + 6,none⟩ (.string x.q.v.t)).setCell ⟨g,p * 8 + 7,none⟩ (.int .i64 x.q.v.n)) (cs.set i (.own rTld B E (.slice (some ⟨g,0,none⟩) n cap) (ys.set p x))):=by
 have hp:=lt_of_get hz;have hci:i < cs.length:=lt_of_get hi;have S1:=S.put flatTld i hi hn p z (⟨⟨x.q.no,z.q.at',z.q.src,⟨z.q.v.k,z.q.v.t,z.q.v.n⟩⟩,z.A,z.n,z.c,z.B,z.m,z.d⟩:Tld) hz 0 (by decide) (.int .i64 x.q.no) rfl;have S2:=S1.put flatTld i (by rw [List.getElem?_set_self hci]) (by rw [List.length_set];exact hn) p (⟨⟨x.q.no,z.q.at',z.q.src,⟨z.q.v.k,z.q.v.t,z.q.v.n⟩⟩,z.A,z.n,z.c,z.B,z.m,z.d⟩:Tld) (⟨⟨x.q.no,x.q.at',z.q.src,⟨z.q.v.k,z.q.v.t,z.q.v.n⟩⟩,z.A,z.n,z.c,z.B,z.m,z.d⟩:Tld) (by rw [List.getElem?_set_self hp]) 1 (by decide) (.int .i64 x.q.at') rfl;simp only [List.set_set] at S2
 have S3:=S2.put flatTld i (by rw [List.getElem?_set_self hci]) (by rw [List.length_set];exact hn) p (⟨⟨x.q.no,x.q.at',z.q.src,⟨z.q.v.k,z.q.v.t,z.q.v.n⟩⟩,z.A,z.n,z.c,z.B,z.m,z.d⟩:Tld) (⟨⟨x.q.no,x.q.at',x.q.src,⟨z.q.v.k,z.q.v.t,z.q.v.n⟩⟩,z.A,z.n,z.c,z.B,z.m,z.d⟩:Tld) (by rw [List.getElem?_set_self hp]) 2 (by decide) (.string x.q.src) rfl;simp only [List.set_set] at S3
 have S4:=S3.put flatTld i (by rw [List.getElem?_set_self hci]) (by rw [List.length_set];exact hn) p (⟨⟨x.q.no,x.q.at',x.q.src,⟨z.q.v.k,z.q.v.t,z.q.v.n⟩⟩,z.A,z.n,z.c,z.B,z.m,z.d⟩:Tld) (⟨⟨x.q.no,x.q.at',x.q.src,⟨z.q.v.k,z.q.v.t,z.q.v.n⟩⟩,x.A,x.n,x.c,z.B,z.m,z.d⟩:Tld) (by rw [List.getElem?_set_self hp]) 3 (by decide) (.slice x.A x.n x.c) rfl;simp only [List.set_set] at S4
 have S5:=S4.put flatTld i (by rw [List.getElem?_set_self hci]) (by rw [List.length_set];exact hn) p (⟨⟨x.q.no,x.q.at',x.q.src,⟨z.q.v.k,z.q.v.t,z.q.v.n⟩⟩,x.A,x.n,x.c,z.B,z.m,z.d⟩:Tld) (⟨⟨x.q.no,x.q.at',x.q.src,⟨z.q.v.k,z.q.v.t,z.q.v.n⟩⟩,x.A,x.n,x.c,x.B,x.m,x.d⟩:Tld) (by rw [List.getElem?_set_self hp]) 4 (by decide) (.slice x.B x.m x.d) rfl;simp only [List.set_set] at S5
 have S6:=S5.put flatTld i (by rw [List.getElem?_set_self hci]) (by rw [List.length_set];exact hn) p (⟨⟨x.q.no,x.q.at',x.q.src,⟨z.q.v.k,z.q.v.t,z.q.v.n⟩⟩,x.A,x.n,x.c,x.B,x.m,x.d⟩:Tld) (⟨⟨x.q.no,x.q.at',x.q.src,⟨x.q.v.k,z.q.v.t,z.q.v.n⟩⟩,x.A,x.n,x.c,x.B,x.m,x.d⟩:Tld) (by rw [List.getElem?_set_self hp]) 5 (by decide) (.int .i64 x.q.v.k) rfl;simp only [List.set_set] at S6
 have S7:=S6.put flatTld i (by rw [List.getElem?_set_self hci]) (by rw [List.length_set];exact hn) p (⟨⟨x.q.no,x.q.at',x.q.src,⟨x.q.v.k,z.q.v.t,z.q.v.n⟩⟩,x.A,x.n,x.c,x.B,x.m,x.d⟩:Tld) (⟨⟨x.q.no,x.q.at',x.q.src,⟨x.q.v.k,x.q.v.t,z.q.v.n⟩⟩,x.A,x.n,x.c,x.B,x.m,x.d⟩:Tld) (by rw [List.getElem?_set_self hp]) 6 (by decide) (.string x.q.v.t) rfl;simp only [List.set_set] at S7
 have S8:=S7.put flatTld i (by rw [List.getElem?_set_self hci]) (by rw [List.length_set];exact hn) p (⟨⟨x.q.no,x.q.at',x.q.src,⟨x.q.v.k,x.q.v.t,z.q.v.n⟩⟩,x.A,x.n,x.c,x.B,x.m,x.d⟩:Tld) (⟨⟨x.q.no,x.q.at',x.q.src,⟨x.q.v.k,x.q.v.t,x.q.v.n⟩⟩,x.A,x.n,x.c,x.B,x.m,x.d⟩:Tld) (by rw [List.getElem?_set_self hp]) 7 (by decide) (.int .i64 x.q.v.n) rfl;simp only [List.set_set] at S8
 exact S8
def CondTl (w0:World)(cs:List Chunk)(B:Nat)(v:Value)(f:Nat)(caps:Array Value)(xs:List Tld)(P:Tld→Bool):Prop :=
 ∀ (y:Tld) (w':World) (ys:List Tld),y∈xs→Mem w0 w' (.own rTld B 110 v ys::cs) →
  Calls Tryz.prog f (#[.agg (tlCs y)]++caps) w' fun e w''=>e=.returned (.bool (P y))∧Below w'.heap.size w' w''
def GivesIdxTl (P:Tld→Bool)(xs:List Tld)(w0:World)(cs:List Chunk)(e:Ending)(w':World):Prop :=
 ∃ i:Int,e=.returned (.int .i64 i)∧Mem w0 w' cs∧((i=-1∧∀ y∈xs,P y=false)∨∃ (j:Nat) (y:Tld),i=j∧xs[j]? =some y∧P y=true∧∀ z∈xs.take j,P z=false)
set_option maxHeartbeats 4000000 in
set_option maxRecDepth 100000 in
theorem idxTl_own {w0 w:World}{cs:List Chunk}{B g n cap:Nat}{xs:List Tld}(P:Tld→Bool)(f:Nat)(caps:Array Value)(ef:∀ args w,(callFunc f args).run Tryz.prog w=.ok (.enter f args) w)(S:Mem w0 w (.own rTld B 110 (.slice (some ⟨g,0,none⟩) n cap) xs::cs))(hn:n=xs.length)(hl:n≤1000000)(hf:CondTl w0 cs B (.slice (some ⟨g,0,none⟩) n cap) f caps xs P) :
  Calls Tryz.prog 252 #[.slice (some ⟨g,0,none⟩) n cap,.func (.func f) #[] caps] w (GivesIdxTl P xs w0 (.own rTld B 110 (.slice (some ⟨g,0,none⟩) n cap) xs::cs)):=by
 unfold CondTl at hf;have HF:=Lib.hid hf;have Hn:=Lib.hid hn;clear hf hn
 go_enter Tryz.func252,Tryz.ntmps252
 go_wp2_with fail
 go_loopw [8] (fun i wr=>∃ j:Nat,j≤n∧i=.int .i64 j∧Hid (∀ z∈xs.take j,P z=false)∧Mem w0 wr (.own rTld B 110 (.slice (some ⟨g,0,none⟩) n cap) xs::cs)) (fun i _=>n - (intOf i).toNat)
 case atStart=>exact ⟨0,Nat.zero_le _,rfl,(by show ∀ z∈_,_;simp),S⟩
 case round =>
  clear S;obtain ⟨j,hj,rfl,HP,S⟩:=hrel;by_cases hlt:j < n
  ·obtain ⟨x,hx⟩:∃ x,xs[j]? =some x:=⟨_,List.getElem?_eq_getElem (by have:=Hn.out;omega)⟩;obtain ⟨⟨d0,d1,d2,d3,d4,d5,d6,d7⟩,_⟩:=(S.ow 0 rfl).tldAt Hn.out j x hx;have Hx:=Lib.hid hx;clear hx;have HS:=Lib.hid S;clear S
   go_wp2_with fail
   ((with_reducible refine (HF.out x wr xs (List.mem_of_getElem? Hx.out) HS.out).mono ?_);rintro e w2 ⟨rfl,hl2⟩)
   have S:=HS.out.below hl2;clear hl2 d0 d1 d2 d3 d4 d5 d6 d7 HS;cases hp:P x with
   | false =>
    have HP2:Hid (∀ z∈xs.take (j + 1),P z=false):=fun z hz=>by
     rw [take_snoc Hx.out] at hz;rcases List.mem_append.1 hz with hz | hz
     ·exact HP.out z hz
     ·rw [List.mem_singleton.1 hz];exact hp
    clear hp
    go_wp2_with fail
    go_roundw
    case rel=>exact ⟨j + 1,by omega,by go_num,HP2,S⟩
    case measure=>simp [intOf];omega
   | true =>
    have Hp:=Lib.hid hp;clear hp
    go_wp2_with fail
    go_ret
    exact ⟨j,rfl,S,.inr ⟨j,x,rfl,Hx.out,Hp.out,HP.out⟩⟩
  ·have HP2:Hid (∀ z∈xs,P z=false):=by
    have h1:=HP.out;rw [List.take_of_length_le (by have:=Hn.out;omega)] at h1;exact h1
   go_wp2_with fail
   go_ret
   exact ⟨-1,rfl,S,.inl ⟨rfl,HP2.out⟩⟩
theorem idxTl_nil (w:World)(f:Nat)(caps:Array Value) :
  Calls Tryz.prog 252 #[.slice none 0 0,.func (.func f) #[] caps] w fun e w'=>e=.returned (.int .i64 (-1))∧w=w':=by
 go_enter Tryz.func252,Tryz.ntmps252
 go_wp2_with fail
 go_loopw [8] (fun i wr=>i=.int .i64 0∧w=wr) (fun _ _=>0)
 case atStart=>exact ⟨rfl,rfl⟩
 case round =>
  obtain ⟨rfl,rfl⟩:=hrel
  go_wp2_with fail
  go_ret
  exact ⟨rfl,rfl⟩
theorem zeroTlS (w:World):(zeroValue 110).run Tryz.prog w=.ok (.agg #[.int .i64 0,.int .i64 0,.string ⟨#[]⟩,.slice none 0 0,.slice none 0 0,.int .i64 0,.string ⟨#[]⟩,.int .i64 0]) w:=by kernel_rfl
theorem oneZT (j:Nat)(h:j < rTld.size):(((Value.agg #[.int .i64 0,.int .i64 0,.string ⟨#[]⟩,.slice none 0 0,.slice none 0 0,.int .i64 0,.string ⟨#[]⟩,.int .i64 0]).cells)[j]!).oneCell'=true:=by
 obtain rfl | rfl | rfl | rfl | rfl | rfl | rfl | rfl:j=0∨j=1∨j=2∨j=3∨j=4∨j=5∨j=6∨j=7:=by
  have:j < 8:=h
  omega
 all_goals rfl
def keepTl {α:Type}(P:α→Bool)(x:α):Bool:= !P x
theorem keepTl_none {α:Type}{P:α→Bool}{xs:List α}(h:∀ y∈xs,P y=false):xs.filter (keepTl P)=xs:=List.filter_eq_self.2 fun y hy=>by simp [keepTl,h y hy]
structure KeepTl {α:Type} (P:α→Bool) (xs ys:List α) (i j:Nat):Prop where
 len:ys.length=xs.length
 front:ys.take i=(xs.take j).filter (keepTl P)
 rest:ys.drop j=xs.drop j
 le:i≤j
section
variable {α:Type} {P:α→Bool} {xs ys:List α} {i j:Nat}
theorem KeepTl.get (h:KeepTl P xs ys i j){x:α}(hx:ys[j]? =some x):xs[j]? =some x:=by
 have h1:=congrArg (fun l:List α=>l[0]?) h.rest;simp only [List.getElem?_drop,Nat.add_zero] at h1
 rw [← h1];exact hx
theorem KeepTl.skip (h:KeepTl P xs ys i j){x:α}(hx:ys[j]? =some x)(hp:P x=true):KeepTl P xs ys i (j + 1):=by
 refine ⟨h.len,?_,?_,Nat.le_succ_of_le h.le⟩
 ·rw [take_snoc (h.get hx),List.filter_append,h.front];simp [keepTl,hp]
 ·have h1:=congrArg (List.drop 1) h.rest;rw [List.drop_drop,List.drop_drop] at h1;exact h1
theorem KeepTl.put (h:KeepTl P xs ys i j)(hij:i < j){x:α}(hx:ys[j]? =some x)(hp:P x=false):KeepTl P xs (ys.set i x) (i + 1) (j + 1):=by
 have hi:i < ys.length:=by have:=lt_of_get hx;omega
 refine ⟨by rw [List.length_set,h.len],?_,?_,by omega⟩
 ·rw [take_snoc (h.get hx),List.filter_append,← h.front,List.take_set,take_snoc (x:=ys[i]) (List.getElem?_eq_getElem hi)];have hl:(ys.take i).length=i:=by rw [List.length_take];omega
  rw [List.set_append_right _ _ (by omega),hl,Nat.sub_self];simp [keepTl,hp]
 ·rw [List.drop_set_of_lt (by omega)];have h1:=congrArg (List.drop 1) h.rest;rw [List.drop_drop,List.drop_drop] at h1;exact h1
end
def GivesDelTl (P:Tld→Bool)(xs:List Tld)(B:Nat)(w0:World)(cs:List Chunk)(e:Ending)(w':World):Prop :=
 ∃ v,e=.returned v∧Mem w0 w' (.own rTld B 110 v (xs.filter (keepTl P))::cs)
set_option maxHeartbeats 8000000 in
set_option maxRecDepth 100000 in
theorem delTl_own {w0 w:World}{cs:List Chunk}{B g n cap:Nat}{xs:List Tld}(P:Tld→Bool)(f:Nat)(caps:Array Value)(ef:∀ args w,(callFunc f args).run Tryz.prog w=.ok (.enter f args) w)(S:Mem w0 w (.own rTld B 110 (.slice (some ⟨g,0,none⟩) n cap) xs::cs))(hn:n=xs.length)(hl:n≤1000000)(hf:CondTl w0 cs B (.slice (some ⟨g,0,none⟩) n cap) f caps xs P) :
  Calls Tryz.prog 182 #[.slice (some ⟨g,0,none⟩) n cap,.func (.func f) #[] caps] w (GivesDelTl P xs B w0 cs):=by
 have Hix:=Lib.hid (idxTl_own P f caps ef S hn hl hf);unfold CondTl at hf;have HF:=Lib.hid hf;have Hn:=Lib.hid hn;clear hf hn S
 go_enter Tryz.func182,Tryz.ntmps182
 go_wp2_with fail
 ((with_reducible refine (Hix.out).mono ?_);rintro e w2 ⟨i,rfl,S,hc⟩)
 clear Hix;rcases hc with ⟨rfl,hall⟩ | ⟨j0,y0,rfl,hy0,hp0,hbef⟩
 ·have Hk:=Lib.hid (keepTl_none hall);clear hall
  go_wp2_with fail
  go_ret
  refine ⟨_,rfl,?_⟩;rw [Hk.out];exact S
 ·have hj0:j0 < n:=by have:=lt_of_get hy0;have:=Hn.out;omega
  have HD:Hid (KeepTl P xs xs j0 (j0 + 1)):=by
   refine ⟨rfl,?_,rfl,Nat.le_succ _⟩;rw [take_snoc hy0,List.filter_append,keepTl_none hbef];simp [keepTl,hp0]
  clear hy0 hp0 hbef
  go_wp2_with fail
  go_loopw [5,6] (fun s5 s6 wr=>∃ (i j:Nat) (ys:List Tld),s5=.int .i64 i∧s6=.int .i64 j∧i < j∧j≤n∧Hid (KeepTl P xs ys i j)∧Mem w0 wr (.own rTld B 110 (.slice (some ⟨g,0,none⟩) n cap) ys::cs)) (fun _ s6 _=>n - (intOf s6).toNat)
  case atStart=>exact ⟨j0,j0 + 1,xs,rfl,by go_num,by omega,by omega,HD,S⟩
  case round =>
   clear S HD;obtain ⟨i,j,ys,rfl,rfl,hij,hj,HD,S⟩:=hrel;by_cases hlt:j < n
   ·obtain ⟨x,hx⟩:∃ x,ys[j]? =some x:=⟨_,List.getElem?_eq_getElem (by have:=Hn.out;have:=HD.out.len;omega)⟩;have hyl:Hid (n=ys.length):=by show _=_;have:=Hn.out;have:=HD.out.len;omega
    obtain ⟨⟨d0,d1,d2,d3,d4,d5,d6,d7⟩,_⟩:=(S.ow 0 rfl).tldAt hyl.out j x hx;have Hx:=Lib.hid hx;clear hx
    go_upto_region 8 with fail
    clear d0 d1 d2 d3 d4 d5 d6 d7;obtain ⟨Y,hY⟩:∃ Y,Y=wr.heap.size:=⟨_,rfl⟩;have Ly:=LV.new wr wr.heap.size (tlCs x) 110 rfl;replace S:=S.alloc (.cells (tlCs x) 110);rw [← hY] at Ly ⊢;have hYl:Y < (wr.alloc (.cells (tlCs x) 110)).heap.size:=by rw [hY];simp
    clear hY;generalize wr.alloc (.cells (tlCs x) 110)=w3 at *;have c0:=Ly.all;have HS:=Lib.hid S;clear S
    go_wp2_with fail
    ((with_reducible refine (HF.out x w3 ys (List.mem_of_getElem? (HD.out.get Hx.out)) HS.out).mono ?_);rintro e w4 ⟨rfl,hl4⟩)
    have HS4:=Lib.hid (HS.out.below hl4);have Ly4:=LV.kb3 Ly hl4 hYl;clear hl4 HS c0 Ly;have c0:=Ly4.all;cases hp:P x with
    | true =>
     have HD2:=Lib.hid (HD.out.skip Hx.out hp);clear hp HD
     go_wp2_with fail
     go_roundw
     case rel=>exact ⟨_,_,_,_,_,_,_,_,_,_,_,_,_,_,_,_,_,_,_,_,_,_,_,⟨i,j + 1,ys,rfl,by go_num,by omega,by omega,HD2,HS4.out⟩,rfl⟩
     case measure=>simp [intOf];omega
    | false =>
     have HD2:=Lib.hid (HD.out.put hij Hx.out hp);clear hp HD;obtain ⟨z,hz⟩:∃ z,ys[i]? =some z:=⟨_,List.getElem?_eq_getElem (by have:=hyl.out;omega)⟩;obtain ⟨⟨e0,e1,e2,e3,e4,e5,e6,e7⟩,ff⟩:=(HS4.out.ow 0 rfl).tldAt hyl.out i z hz;have f0:w4.frozen? ⟨g,i * 8,none⟩=false:=ff 0 (by omega);have f1:=ff 1 (by omega);have f2:=ff 2 (by omega);have f3:=ff 3 (by omega);have f4:=ff 4 (by omega);have f5:=ff 5 (by omega);have f6:=ff 6 (by omega);have f7:=ff 7 (by omega);have Hz:=Lib.hid hz;clear hz ff
     go_wp2_with fail
     have S1:=HS4.out.putTld 0 rfl hyl.out i z x Hz.out;simp only [List.set_cons_zero] at S1
     go_roundw
     case rel=>exact ⟨_,_,_,_,_,_,_,_,_,_,_,_,_,_,_,_,_,_,_,_,_,_,_,⟨i + 1,j + 1,ys.set i x,by go_num,by go_num,by omega,by omega,HD2,S1⟩,rfl⟩
     case measure=>simp [intOf];omega
   ·have hyl:Hid (n=ys.length):=by show _=_;have:=Hn.out;have:=HD.out.len;omega
    have HT:Hid (ys.take i=xs.filter (keepTl P)):=by
     show _=_;rw [HD.out.front,List.take_of_length_le (by have:=Hn.out;omega)]
    have HTl:Hid (i=(xs.filter (keepTl P)).length):=by show _=_;rw [← HT.out,List.length_take];have:=hyl.out;omega
    clear HD;have hcap:n≤cap:=by
     obtain ⟨g2,cap2,e2,h2⟩:=(S.ow 0 rfl).form (by have:=hyl.out;omega);have:=hyl.out
     simp only [Value.slice.injEq] at e2
     omega
    go_wp2_with (refine S.clearTail 0 rfl hyl.out tyTld zeroTlS oneZT i (cap - i) (by omega) rfl _ rfl (i * 8) (n - i) rfl rfl rfl ?_;intro w5 S5)
    go_ret
    refine ⟨_,rfl,?_⟩;rw [HT.out] at S5;exact S5
theorem delTl_any {w0 w:World}{cs:List Chunk}{B:Nat}{v:Value}{xs:List Tld}(P:Tld→Bool)(f:Nat)(caps:Array Value)(ef:∀ args w,(callFunc f args).run Tryz.prog w=.ok (.enter f args) w)(S:Mem w0 w (.own rTld B 110 v xs::cs))(hl:xs.length≤1000000)(hf:CondTl w0 cs B v f caps xs P) :
  Calls Tryz.prog 182 #[v,.func (.func f) #[] caps] w (GivesDelTl P xs B w0 cs):=by
 rcases (S.ow 0 rfl).shape2 with ⟨rfl,rfl⟩ | ⟨g,cap,rfl,hc⟩
 ·clear hf
  go_enter Tryz.func182,Tryz.ntmps182
  go_wp2_with fail
  ((with_reducible refine (idxTl_nil w f caps).mono ?_);rintro e _ ⟨rfl,rfl⟩)
  go_wp2_with fail
  go_ret
  exact ⟨_,rfl,S⟩
 ·exact delTl_own P f caps ef S rfl hl hf
end
section
open Go Go.RowKit
def latP (x m:Tc):Bool:=decide (0 < latC x m)
def firP (x m:Tc):Bool:=decide (latC x m < 0)
def bstP (ms:Tc→Int)(x m:Tc):Bool:=decide (0 < bestC ms x m)
def nonT (a:Tld):Bool:= !txtB a.q
def survP (how:Int)(srcs:List ByteArray)(x0:Tc)(r0:List Tc):Tc :=
 if how=2 then pick firP x0 r0
 else if how=3 then pick (bstP lenMs) x0 r0
 else if how=4 then pick (bstP (cntMs (x0::r0))) x0 r0
 else if how=5 then pick (bstP (srcMs srcs)) x0 r0
 else if how=6∨how=7 then
  match (x0::r0).filter (fun x=> !txtB x) with
  | []=>pick latP x0 r0
  | y::t=>pick (bstP (numMs (if how=7 then -1 else 1))) y t
 else pick latP x0 r0
theorem sv4n_any (a:Tld)(w:World):Calls Tryz.prog 180 #[.agg (tlCs a)] w fun e w'=>e=.returned (.bool (nonT a))∧Below w.heap.size w w':=sv4_any a w
theorem IdxTl {N:Nat→Prop}(A:Option Addr)(xs:List Tld)(c:Nat)(w:World)(hS:Sl rTld N w A xs)(hl:xs.length≤1000000) :
  Calls Tryz.prog 252 #[.slice A xs.length c,.func (.func 180) #[] #[]] w fun e w'=>e=.returned (.int .i64 (idxGo nonT 0 xs))∧Below w.heap.size w w':=by
 have HS:=Lib.hid hS;clear hS;obtain ⟨R,HR⟩:∃ R,Hid (idxGo nonT 0 xs=R):=⟨_,Lib.hid rfl⟩;rw [HR.out]
 go_enter Tryz.func252,Tryz.ntmps252
 go_wp2_with fail
 go_loopw [8] (fun i wr=>∃ k:Nat,k≤xs.length∧i=.int .i64 k∧idxGo (nonT) k (xs.drop k)=R∧Below w.heap.size w wr) (fun i _=>xs.length - (intOf i).toNat)
 case atStart=>exact ⟨0,Nat.zero_le _,rfl,HR.out,Below.refl _ _⟩
 case round =>
  clear HR;obtain ⟨k,hk,rfl,hr,hbl⟩:=hrel;have Hr:=Lib.hid hr;clear hr;by_cases hlt:k < xs.length
  ·obtain ⟨q,hq⟩:∃ q,xs[k]? =some q:=⟨_,List.getElem?_eq_getElem (by omega)⟩;obtain ⟨blk,off,rfl,hblk,d0,d1,d2,d3,d4,d5,d6,d7⟩:=(HS.out.keepB hbl).tld k q hq;have Hs:Hid ((if nonT q=true then (k:Int) else idxGo (nonT) (k + 1) (xs.drop (k + 1)))=R):=by
    show _=_;rw [← Hr.out,drop_at3 hq];rfl
   have Hc:=Lib.hid (sv4n_any q wr);clear Hr hq;generalize nonT q=b at *
   go_wp2_with fail
   ((with_reducible refine (Hc.out).mono ?_);rintro e w1 ⟨rfl,hl1⟩)
   have Hb1:=Lib.hid (hbl.trans (hl1.mono hbl.size));clear d0 d1 d2 d3 d4 d5 d6 d7;clear hl1 Hc;cases b
   ·have Hn:Hid (idxGo (nonT) (k + 1) (xs.drop (k + 1))=R):=Hs.out
    go_wp2_with fail
    go_roundw
    case rel=>exact ⟨k + 1,by omega,by go_num,Hn.out,Hb1.out⟩
    case measure=>simp [intOf];omega
   ·have Hn:Hid ((k:Int)=R):=Hs.out
    go_wp2_with fail
    go_ret
    exact ⟨ret_i Hn.out,Hb1.out⟩
  ·have Hn:Hid (-1=R):=by show _=_;rw [← Hr.out,List.drop_eq_nil_of_le (by omega)];rfl
   clear Hr
   go_wp2_with fail
   go_ret
   exact ⟨ret_i Hn.out,hbl⟩
theorem containsTl_any {N:Nat→Prop}(A:Option Addr)(xs:List Tld)(c:Nat)(w:World)(hS:Sl rTld N w A xs)(hl:xs.length≤1000000) :
  Calls Tryz.prog 179 #[.slice A xs.length c,.func (.func 180) #[] #[]] w fun e w'=>e=.returned (.bool (xs.any nonT))∧Below w.heap.size w w':=by
 have Hi:=Lib.hid (IdxTl A xs c w hS hl);rw [← idxGo_any nonT xs 0];generalize idxGo nonT 0 xs=ix at *;clear hS
 go_enter Tryz.func179,Tryz.ntmps179
 go_wp2_with fail
 ((with_reducible refine (Hi.out).mono ?_);rintro e w2 ⟨rfl,hl_w2⟩)
 have hz_w2:=hl_w2.size
 go_wp2_with fail
 go_ret
 exact ⟨by first | rfl | simp,hl_w2⟩
set_option maxHeartbeats 4000000 in
theorem cloneTl_any (N:Nat→Prop)(A:Option Addr)(l:List Tld)(c:Nat)(w:World)(hL:Sl rTld N w A l)(hl:l.length≤10000000) :
  Calls Tryz.prog 183 #[.slice A l.length c] w fun e w'=>∃ A' c',e=.returned (.slice A' l.length c')∧Mem w w' [.own rTld w.heap.size 110 (.slice A' l.length c') l]:=by
 have he:∀ (a:Option Addr) (n c:Nat) (w:World),(binOp .eql 105 (.slice a n c) (.slice none 0 0)).run Tryz.prog w=.ok (.bool a.isNone) w:=fun a n c w=>Lib.run_eql_slice_nil w _ _ a n c 0 0 tyTld.under;cases A with
 | none =>
  obtain rfl:=Sl.nilOf hL;have S:Mem w w [.own rTld w.heap.size 110 (.slice none 0 0) []]:=(Mem.start w).nil rTld w.heap.size 110
  go_enter Tryz.func183,Tryz.ntmps183
  go_wp2_with fail
  go_ret
  exact ⟨none,0,rfl,S⟩
 | some ad =>
  have S:=(Mem.start w).newAt #[] 110 w.heap.size rfl;have S1:Mem w (w.alloc (.cells #[] 110)) [.own rTld w.heap.size 110 (.slice (some ⟨w.heap.size,0,none⟩) 0 0) []]:=S.room (r:=rTld) 0 rfl rfl (by decide) rfl;have Hc:=Lib.hid (Sl.flatCells flatTld (fun _=>rfl) (hL.keepB S1.b));have hsz:=S1.b.size;have HS:=Lib.hid S1;have Hl:=Lib.hid hl;clear S S1 hL hl
  go_enter Tryz.func183,Tryz.ntmps183
  go_wp2_with (at_builtin;refine HS.out.appN flatTld 0 rfl tyTld rfl _ _ rfl l l.length c rfl rfl ad rfl Hc.out (fun y _=>oneTld y) (fun _=>rfl) hsz (by simp only [List.length_nil];have:=Hl.out;omega) (by decide) ?_;intro v5 w5 S5)
  obtain ⟨A5,c5,e5⟩:=(S5.ow 0 rfl).len;subst e5
  go_ret
  exact ⟨A5,c5,rfl,S5⟩
def CntOk (xs:List Tc)(L:List (Vt×Value)):Prop:=∀ x:Tc,(getG x.v L).getD (.int .i64 0)=.int .i64 (cntMs xs x)
theorem CntOk.start:CntOk [] []:=fun _=>rfl
theorem CntOk.add {xs:List Tc}{L:List (Vt×Value)}(h:CntOk xs L)(y:Tc):CntOk (xs++[y]) (updG y.v (.int .i64 (cntMs xs y + 1)) L):=fun x=>by
 rw [getG_upd];unfold cntMs;rw [List.filter_append,List.length_append];by_cases e:x.v=y.v
 ·rw [if_pos e,Option.getD_some];have e2:(List.filter (fun z:Tc=>decide (z.v=x.v)) [y]).length=1:=by simp [e]
  rw [e2,e];rfl
 ·rw [if_neg e];have e2:(List.filter (fun z:Tc=>decide (z.v=x.v)) [y]).length=0:=by
   have:¬ y.v=x.v:=fun h=>e h.symm
   simp [this]
  rw [e2];exact h x
theorem cnt_rng (xs:List Tc)(x:Tc):0≤cntMs xs x∧cntMs xs x≤xs.length:=by
 unfold cntMs;have:=List.length_filter_le (fun y:Tc=>decide (y.v=x.v)) xs
 omega
end
section
open Go Go.RowKit
theorem loadAtV3' {w:World}{X o:Nat}{k n:Int}{t:ByteArray}(h0:w.cell? ⟨X,o,none⟩=some (.int .i64 k))(h1:w.cell? ⟨X,o + 1,none⟩=some (.string t))(h2:w.cell? ⟨X,o + 2,none⟩=some (.int .i64 n)):(Instr.loadAt 57 (.pointer (some ⟨X,o,none⟩))).run Tryz.prog w=.ok (.agg #[.int .i64 k,.string t,.int .i64 n]) w:=by
 go_simp
set_option maxHeartbeats 16000000 in
set_option maxRecDepth 100000 in
theorem survivor_any (N:Nat→Prop)(s:Srv)(As:Option Addr)(cA:Nat)(A:Option Addr)(x0:Tld)(r0:List Tld)(n c:Nat)(w:World)(hs2:Sl rStr N w As s.srcs)(hsl:s.srcs.length≤1000000)(hS:Sl rTld N w A (x0::r0))(hn:n=(x0::r0).length)(hl:(x0::r0).length≤1000000)
  (hok:∀ a∈x0::r0,a.q.v.t.size≤1000000∧-4611686018427387904≤a.q.v.n∧a.q.v.n≤4611686018427387904) :
  Calls Tryz.prog 114 #[.agg (svCs s As cA),.slice A n c] w fun e w'=>e=.returned (.agg #[.int .i64 (survP s.how s.srcs x0.q (r0.map Tld.q)).v.k,.string (survP s.how s.srcs x0.q (r0.map Tld.q)).v.t,.int .i64 (survP s.how s.srcs x0.q (r0.map Tld.q)).v.n])∧Below w.heap.size w w':=by
 obtain ⟨V,hV⟩:∃ V,(survP s.how s.srcs x0.q (r0.map Tld.q)).v=V:=⟨_,rfl⟩;rw [hV];have HV:=Lib.hid hV;obtain ⟨xs,hxs⟩:∃ xs,x0::r0=xs:=⟨_,rfl⟩;have Hxs:=Lib.hid hxs;obtain ⟨Y,hY⟩:∃ Y,Y=w.heap.size:=⟨_,rfl⟩;have T0:Mem w (w.alloc (.cells (svCs s As cA) 131)) [.loc Y (svCs s As cA) 131]:=(Mem.start w).newAt _ 131 Y hY;have T:Mem w ((w.alloc (.cells (svCs s As cA) 131)).alloc (.cells #[.int .i64 0,.string ⟨#[]⟩,.int .i64 0] 57)) [.loc Y (svCs s As cA) 131,.loc (Y + 1) #[.int .i64 0,.string ⟨#[]⟩,.int .i64 0] 57]:=T0.newAt #[.int .i64 0,.string ⟨#[]⟩,.int .i64 0] 57 (Y + 1) (by rw [hY,World.size_alloc]);have HS:=Lib.hid (fun w' (h:Below w.heap.size w w')=>hS.keepB h);have HS2:=Lib.hid (fun w' (h:Below w.heap.size w w')=>hs2.keepB h);have Hok:=Lib.hid hok;have Hn:=Lib.hid hn;have Hl:=Lib.hid hl;clear hs2 hS hok hn hl T0 hxs hV
 go_enter Tryz.func114,Tryz.ntmps114
 go_upto_region 1 with fail
 rw [← hY];clear hY;generalize (w.alloc (.cells (svCs s As cA) 131)).alloc (.cells #[.int .i64 0,.string ⟨#[]⟩,.int .i64 0] 57)=w1 at *;obtain ⟨Z,hZ⟩:∃ Z,Z=Y + 1:=⟨_,rfl⟩;rw [← hZ] at T ⊢;clear hZ;have Hlat:Hid (∀ w',Below w1.heap.size w1 w'→FnT w' 172 #[] (x0::r0) latC):=fun w' _ w'' a b _ _ _=>later_any a b w'';have Hel:Hid (∀ args w,(callFunc 172 args).run Tryz.prog w=.ok (.enter 172 args) w):=enters_of Tryz.func172 (by kernel_rfl) rfl;have Hmax:=Lib.hid (fun w' (h:Below w1.heap.size w1 w')=>maxTld_any 172 #[] latC Hel.out N A x0 r0 n c w' (HS.out w' (T.b.trans (h.mono T.b.size))) Hn.out Hl.out (Hlat.out w' h));have y0:=(T.lv 0 rfl).all;by_cases h2:s.how=2
 ·have e2:(s.how==2)=true:=by simpa using h2
  have Hmin:=Lib.hid (minTld_any 172 #[] latC Hel.out N A x0 r0 n c w1 (HS.out w1 T.b) Hn.out Hl.out (Hlat.out w1 (Below.refl _ _)));obtain ⟨g,hg⟩:∃ g,pickT (fun x m=>decide (latC x m < 0)) x0 r0=g:=⟨_,rfl⟩;rw [hg] at Hmin;have Hg:Hid (g.q.v=V):=by
   show _=_;rw [← HV.out,← hg,pickT_q];unfold survP;rw [if_pos h2];rfl
  clear hg Hmax Hlat Hel h2
  go_wp2_with fail
  ((with_reducible refine (Hmin.out).mono ?_);rintro e w8 ⟨rfl,hl8⟩)
  have T8:=T.below hl8;have hfd:=field3 g.q.no g.q.at' g.q.v.k g.q.v.n g.q.src g.q.v.t (.slice g.A g.n g.c) (.slice g.B g.m g.d) ⟨_,_,_,rfl⟩ ⟨_,_,_,rfl⟩;have l1:=(T8.lv 1 rfl).all;have T9:Mem w _ [.loc Y (svCs s As cA) 131,.loc Z #[.int .i64 g.q.v.k,.string g.q.v.t,.int .i64 g.q.v.n] 57]:=((T8.set 1 0 (.int .i64 g.q.v.k) rfl).set 1 1 (.string g.q.v.t) rfl).set 1 2 (.int .i64 g.q.v.n) rfl;clear T hl8 T8
  go_wp2_with fail
  exact bodyPost_ret (results_cell1 rfl rfl (loadV3 (T9.lv 1 rfl))) rfl ⟨by rw [Hg.out],T9.b⟩
 have e2:(s.how==2)=false:=by simpa using h2
 by_cases h3:s.how=3
 ·have e3:(s.how==3)=true:=by simpa using h3
  have Hb:=Lib.hid (best_any 174 #[] lenMs (enters_of Tryz.func174 (by kernel_rfl) rfl) N A x0 r0 n c w1 (HS.out w1 T.b) Hn.out Hl.out (fun w' a ha _=>sv1_any a w' (Hok.out a ha).1));obtain ⟨g,hg⟩:∃ g,pickT (fun x m=>decide (0 < bestC lenMs x m)) x0 r0=g:=⟨_,rfl⟩;rw [hg] at Hb;have Hg:Hid (g.q.v=V):=by
   show _=_;rw [← HV.out,← hg,pickT_q];unfold survP;rw [if_neg h2,if_pos h3];rfl
  clear hg Hmax Hlat Hel h2 h3
  go_wp2_with fail
  ((with_reducible refine (Hb.out).mono ?_);rintro e w8 ⟨rfl,hl8⟩)
  have T8:=(T).below hl8;have l1:=(T8.lv 1 rfl).all;have T9:Mem w _ [.loc Y (svCs s As cA) 131,.loc Z #[.int .i64 g.q.v.k,.string g.q.v.t,.int .i64 g.q.v.n] 57]:=((T8.set 1 0 (.int .i64 g.q.v.k) rfl).set 1 1 (.string g.q.v.t) rfl).set 1 2 (.int .i64 g.q.v.n) rfl;clear hl8 T8
  go_wp2_with fail
  exact bodyPost_ret (results_cell1 rfl rfl (loadV3 (T9.lv 1 rfl))) rfl ⟨by rw [Hg.out],T9.b⟩
 have e3:(s.how==3)=false:=by simpa using h3
 by_cases h4:s.how=4
 ·have e4:(s.how==4)=true:=by simpa using h4
  have hmm:=@run_makeMap Tryz.prog;obtain ⟨X,hX⟩:∃ X,X=w1.heap.size:=⟨_,rfl⟩;obtain ⟨U,hU⟩:∃ U,U=w1.heap.size + 1:=⟨_,rfl⟩;have T1:=(T.newMapG keyVt X hX).newAt #[.map (some X)] 238 U (by rw [hU,World.size_alloc]);replace T1:Mem w ((w1.alloc (.map #[] 0)).alloc (.cells #[.map (some X)] 238)) [.loc Y (svCs s As cA) 131,.loc Z #[.int .i64 0,.string ⟨#[]⟩,.int .i64 0] 57,.mapG keyVt X [],.loc U #[.map (some X)] 238]:=T1;have hb13:Below w1.heap.size w1 ((w1.alloc (.map #[] 0)).alloc (.cells #[.map (some X)] 238)):=((Below.refl _ _).alloc (Nat.le_refl _) _).alloc (by simp) _;obtain ⟨g,hg⟩:∃ g,pickT (fun x m=>decide (0 < bestC (cntMs (xs.map Tld.q)) x m)) x0 r0=g:=⟨_,rfl⟩;have Hg:Hid (g.q.v=V):=by
   show _=_;rw [← HV.out,← hg,pickT_q];unfold survP;rw [if_neg h2,if_neg h3,if_pos h4,← List.map_cons,Hxs.out];rfl
  have Hbst:Hid (∀ (w':World) (L:List (Vt×Value)),Below w.heap.size w w'→CntOk (xs.map Tld.q) L→MapG keyVt w' X L→LV w' U #[.map (some X)] 238→Calls Tryz.prog 173 #[.slice A n c,.func (.func 176) #[] #[.pointer (some ⟨U,0,none⟩)]] w' fun e w''=>e=.returned (.agg #[.int .i64 g.q.v.k,.string g.q.v.t,.int .i64 g.q.v.n])∧Below w'.heap.size w' w''):=fun w' L hb hL hM hlU=>by
   have h:=best_any 176 #[.pointer (some ⟨U,0,none⟩)] (cntMs (xs.map Tld.q)) (enters_of Tryz.func176 (by kernel_rfl) rfl) N A x0 r0 n c w' (HS.out w' hb) Hn.out Hl.out (fun w'' a _ h=>sv2_any U X L (xs.map Tld.q) a w'' (LV.kb3 hlU h hlU.lt) (by
    obtain ⟨es,cl,hb',he⟩:=hM;exact ⟨es,cl,(h.block X (Array.getElem?_eq_some_iff.1 hb').1).trans hb',he⟩) (hL a.q))
   rw [hg] at h;exact h
  have HSx:Hid (∀ w',Below w.heap.size w w'→Sl rTld N w' A xs):=fun w' h=>by rw [← Hxs.out];exact HS.out w' h
  have Hnx:Hid (n=xs.length):=by show _=_;rw [← Hxs.out];exact Hn.out
  have hlx:xs.length≤1000000:=by rw [← Hxs.out];exact Hl.out
  have hnl:n≤1000000:=by have:=Hnx.out;omega
  clear hg Hmax Hlat Hel h2 h3 h4 T
  go_upto_region 8 with fail
  rw [← hU,← hX];clear hU hX hmm y0;generalize (w1.alloc (.map #[] 0)).alloc (.cells #[.map (some X)] 238)=w3 at *
  go_wp2_with fail
  go_loopw [25] (fun ix wr=>∃ (k:Nat) (L:List (Vt×Value)),k≤n∧ix=.int .i64 k∧Hid (CntOk ((xs.take k).map Tld.q) L)∧Mem w wr [.loc Y (svCs s As cA) 131,.loc Z #[.int .i64 0,.string ⟨#[]⟩,.int .i64 0] 57,.mapG keyVt X L,.loc U #[.map (some X)] 238]) (fun ix _=>n - (intOf ix).toNat)
  case atStart=>exact ⟨0,[],Nat.zero_le _,rfl,CntOk.start,T1⟩
  case round =>
   clear T1 hb13;obtain ⟨k,L,hk,rfl,HO,T⟩:=hrel;by_cases hlt:k < n
   ·obtain ⟨x,hx⟩:∃ x,xs[k]? =some x:=⟨_,List.getElem?_eq_getElem (by have:=Hnx.out;omega)⟩;obtain ⟨bt,ot,rfl,hbt,d0,d1,d2,d3,d4,d5,d6,d7⟩:=(HSx.out wr T.b).tld k x hx;have HO2:Hid (CntOk ((xs.take (k + 1)).map Tld.q) (updG x.q.v (.int .i64 (cntMs ((xs.take k).map Tld.q) x.q + 1)) L)):=by
     show CntOk _ _;rw [take_snoc hx,List.map_append];exact HO.out.add x.q
    have Hz0:=Lib.hid (HO.out x.q);have hcr:=cnt_rng ((xs.take k).map Tld.q) x.q;rw [List.length_map,List.length_take] at hcr;obtain ⟨cn,hcn⟩:∃ cn,cntMs ((xs.take k).map Tld.q) x.q=cn:=⟨_,rfl⟩;rw [hcn] at HO2 Hz0 hcr;have hcb:-1≤cn∧cn≤1000000:=by omega
    obtain ⟨W,hW⟩:∃ W,W=wr.heap.size:=⟨_,rfl⟩;have S4:Mem w (wr.alloc (.cells (tlCs x) 110)) [.loc W (tlCs x) 110,.loc Y (svCs s As cA) 131,.loc Z #[.int .i64 0,.string ⟨#[]⟩,.int .i64 0] 57,.mapG keyVt X L,.loc U #[.map (some X)] 238]:=(T.newAt (tlCs x) 110 W hW).front;clear hx HO hcn hcr
    go_upto_region 11 with fail
    rw [← hW];clear hW T d0 d1 d2 d3 d4 d5 d6 d7 hbt;generalize wr.alloc (.cells (tlCs x) 110)=w5 at *
    go_wp2_with fail
    refine wp_region_mixT [] (fun w'=>LV w' W (tlCs x) 110∧LV w' U #[.map (some X)] 238) (.q 0 (.p 1 (.q 2 (.e2 3 (.p 4 (.e 5 (.p 6 (.e 7 .z)))) 5 (.p 6 (.e 3 (.p 4 (.e 7 .z)))))))) (by kernel_rfl) (by kernel_rfl) (fun w' hd=>⟨(S4.below (hd.below _)).lv 0 rfl,(S4.below (hd.below _)).lv 4 rfl⟩) (fun KK hKK wd hd=>?_);have S5:=S4.below (hd.below _);clear hd S4;refine mixT_loadR (.map (some X)) rfl rfl rfl rfl (fun w' h=>loadC rfl (h.2.cell 0 _ rfl)) ?_
    repeat ((first | refine mixT_pp rfl (fun K hK=>?_) | refine mixT_p rfl (fun K hK=>?_));go_simp;(try go_bits);(try simp (disch:=omega) only [if_pos]);(try simp (disch:=omega) only [if_neg]);(try simp (disch:=omega) only [dif_pos]);(try simp (disch:=omega) only [dif_neg]);(try go_simp);(refine hK _ ?_;clear hK K))
    refine mixT_loadR (.agg #[.int .i64 x.q.v.k,.string x.q.v.t,.int .i64 x.q.v.n]) rfl rfl rfl rfl (fun w' h=>loadAtV3' (h.1.cell 5 _ rfl) (h.1.cell 6 _ rfl) (h.1.cell 7 _ rfl)) ?_
    go_simp
    have hwr:IntKind.i64.wrap (cn + 1)=cn + 1:=IntWalk.i64_in _ (by omega);refine mixT_2 (mixT_one rfl rfl (fun K9 hK9=>?_)) (mixT_one rfl rfl (fun K9 hK9=>?_))
    ·refine S5.lookG (K:=keyVt) 3 rfl (T:=238) (E:=3) (by kernel_rfl) zeroIntE rfl _ _ false rfl rfl x.q.v rfl ?_;rw [if_neg (by decide),Hz0.out]
     go_wp2_with fail
     refine ⟨⟨S5.lv 0 rfl,S5.lv 4 rfl⟩,?_⟩
     repeat ((first | refine mixT_pp rfl (fun K hK=>?_) | refine mixT_p rfl (fun K hK=>?_));go_simp;(try go_bits);(try simp (disch:=omega) only [if_pos]);(try simp (disch:=omega) only [if_neg]);(try simp (disch:=omega) only [dif_pos]);(try simp (disch:=omega) only [dif_neg]);(try go_simp);(refine hK _ ?_;clear hK K))
     refine mixT_l rfl rfl (fun K9 hK9=>?_);refine S5.entryG (K:=keyVt) 3 rfl (T:=238) (E:=3) (by kernel_rfl) zeroIntE rfl _ _ rfl rfl x.q.v rfl ?_;intro st w7 S7 _;have hC7:LV w7 W (tlCs x) 110∧LV w7 U #[.map (some X)] 238:=⟨S7.lv 0 rfl,S7.lv 4 rfl⟩;clear S5
     go_wp2_with fail
     refine ⟨hC7,?_⟩;clear hC7
     repeat ((first | refine mixT_pp rfl (fun K hK=>?_) | refine mixT_p rfl (fun K hK=>?_));go_simp;(try go_bits);(try simp (disch:=omega) only [if_pos]);(try simp (disch:=omega) only [if_neg]);(try simp (disch:=omega) only [dif_pos]);(try simp (disch:=omega) only [dif_neg]);(try go_simp);(refine hK _ ?_;clear hK K))
     refine mixT_l rfl rfl (fun K9 hK9=>?_);refine S7.estoreG 3 rfl rfl _ _ _ rfl rfl rfl (.int .i64 (cn + 1)) rfl ?_;intro w9 S9;rw [updG_twice] at S9;have HS9:Hid (Mem w w9 [.loc W (tlCs x) 110,.loc Y (svCs s As cA) 131,.loc Z #[.int .i64 0,.string ⟨#[]⟩,.int .i64 0] 57,.mapG keyVt X (updG x.q.v (.int .i64 (cn + 1)) L),.loc U #[.map (some X)] 238]):=S9;have hC9:LV w9 W (tlCs x) 110∧LV w9 U #[.map (some X)] 238:=⟨S9.lv 0 rfl,S9.lv 4 rfl⟩;clear S9 S7
     go_wp2_with fail
     refine ⟨hC9,?_⟩;clear hC9;refine mixT_nil ?_;simp only [Exit.then]
     refine hKK _ _ ?_;clear hKK KK;have S10:=HS9.out.del 0;clear HS9
     go_wp2_with fail
     go_roundw
     case rel=>exact ⟨k + 1,_,by omega,by go_num,HO2,S10⟩
     case measure=>simp [intOf];omega
    ·refine S5.entryG (K:=keyVt) 3 rfl (T:=238) (E:=3) (by kernel_rfl) zeroIntE rfl _ _ rfl rfl x.q.v rfl ?_;intro st w7 S7 _;have hC7:LV w7 W (tlCs x) 110∧LV w7 U #[.map (some X)] 238:=⟨S7.lv 0 rfl,S7.lv 4 rfl⟩;clear S5
     go_wp2_with fail
     refine ⟨hC7,?_⟩
     repeat ((first | refine mixT_pp rfl (fun K hK=>?_) | refine mixT_p rfl (fun K hK=>?_));go_simp;(try go_bits);(try simp (disch:=omega) only [if_pos]);(try simp (disch:=omega) only [if_neg]);(try simp (disch:=omega) only [dif_pos]);(try simp (disch:=omega) only [dif_neg]);(try go_simp);(refine hK _ ?_;clear hK K))
     refine mixT_l rfl rfl (fun K9 hK9=>?_);refine S7.lookE 3 rfl (T:=238) (E:=3) (by kernel_rfl) zeroIntE rfl _ _ false rfl rfl x.q.v rfl ?_;rw [if_neg (by decide),getG_upd,if_pos rfl,Option.getD_some,Hz0.out]
     go_wp2_with fail
     refine ⟨hC7,?_⟩;clear hC7
     repeat ((first | refine mixT_pp rfl (fun K hK=>?_) | refine mixT_p rfl (fun K hK=>?_));go_simp;(try go_bits);(try simp (disch:=omega) only [if_pos]);(try simp (disch:=omega) only [if_neg]);(try simp (disch:=omega) only [dif_pos]);(try simp (disch:=omega) only [dif_neg]);(try go_simp);(refine hK _ ?_;clear hK K))
     refine mixT_l rfl rfl (fun K9 hK9=>?_);refine S7.estoreG 3 rfl rfl _ _ _ rfl rfl rfl (.int .i64 (cn + 1)) rfl ?_;intro w9 S9;rw [updG_twice] at S9;have HS9:Hid (Mem w w9 [.loc W (tlCs x) 110,.loc Y (svCs s As cA) 131,.loc Z #[.int .i64 0,.string ⟨#[]⟩,.int .i64 0] 57,.mapG keyVt X (updG x.q.v (.int .i64 (cn + 1)) L),.loc U #[.map (some X)] 238]):=S9;have hC9:LV w9 W (tlCs x) 110∧LV w9 U #[.map (some X)] 238:=⟨S9.lv 0 rfl,S9.lv 4 rfl⟩;clear S9 S7
     go_wp2_with fail
     refine ⟨hC9,?_⟩;clear hC9;refine mixT_nil ?_;simp only [Exit.then]
     refine hKK _ _ ?_;clear hKK KK;have S10:=HS9.out.del 0;clear HS9
     go_wp2_with fail
     go_roundw
     case rel=>exact ⟨k + 1,_,by omega,by go_num,HO2,S10⟩
     case measure=>simp [intOf];omega
   ·obtain rfl:k=n:=by omega
    have HO2:Hid (CntOk (xs.map Tld.q) L):=by
     have h:=HO.out;rw [List.take_of_length_le (by have:=Hnx.out;omega)] at h;exact h
    have Hbb:=Lib.hid (Hbst.out wr L T.b HO2.out (T.ok _ (.tail _ (.tail _ (.head _)))) (T.lv 3 rfl));have T7:=(T.del 3).del 2;clear T HO Hbst
    go_wp2_with fail
    ((with_reducible refine (Hbb.out).mono ?_);rintro e w8 ⟨rfl,hl8⟩)
    have T8:=(T7).below hl8;have l1:=(T8.lv 1 rfl).all;have T9:Mem w _ [.loc Y (svCs s As cA) 131,.loc Z #[.int .i64 g.q.v.k,.string g.q.v.t,.int .i64 g.q.v.n] 57]:=((T8.set 1 0 (.int .i64 g.q.v.k) rfl).set 1 1 (.string g.q.v.t) rfl).set 1 2 (.int .i64 g.q.v.n) rfl;clear hl8 T8
    go_wp2_with fail
    exact bodyPost_ret (results_cell1 rfl rfl (loadV3 (T9.lv 1 rfl))) rfl ⟨by rw [Hg.out],T9.b⟩
 have e4:(s.how==4)=false:=by simpa using h4
 by_cases h5:s.how=5
 ·have e5:(s.how==5)=true:=by simpa using h5
  have Hb:=Lib.hid (best_any 177 #[.pointer (some ⟨Y,0,none⟩)] (srcMs s.srcs) (enters_of Tryz.func177 (by kernel_rfl) rfl) N A x0 r0 n c w1 (HS.out w1 T.b) Hn.out Hl.out (fun w' a ha h=>sv3_any N Y s As cA a w' (LV.kb3 (T.lv 0 rfl) h (T.lv 0 rfl).lt) (HS2.out w' (T.b.trans (h.mono T.b.size))) hsl));obtain ⟨g,hg⟩:∃ g,pickT (fun x m=>decide (0 < bestC (srcMs s.srcs) x m)) x0 r0=g:=⟨_,rfl⟩;rw [hg] at Hb;have Hg:Hid (g.q.v=V):=by
   show _=_;rw [← HV.out,← hg,pickT_q];unfold survP;rw [if_neg h2,if_neg h3,if_neg h4,if_pos h5];rfl
  clear hg Hmax Hlat Hel h2 h3 h4 h5
  go_wp2_with fail
  ((with_reducible refine (Hb.out).mono ?_);rintro e w8 ⟨rfl,hl8⟩)
  have T8:=(T).below hl8;have l1:=(T8.lv 1 rfl).all;have T9:Mem w _ [.loc Y (svCs s As cA) 131,.loc Z #[.int .i64 g.q.v.k,.string g.q.v.t,.int .i64 g.q.v.n] 57]:=((T8.set 1 0 (.int .i64 g.q.v.k) rfl).set 1 1 (.string g.q.v.t) rfl).set 1 2 (.int .i64 g.q.v.n) rfl;clear hl8 T8
  go_wp2_with fail
  exact bodyPost_ret (results_cell1 rfl rfl (loadV3 (T9.lv 1 rfl))) rfl ⟨by rw [Hg.out],T9.b⟩
 have e5:(s.how==5)=false:=by simpa using h5
 by_cases h67:s.how=6∨s.how=7
 ·have Hct:=Lib.hid (containsTl_any A xs c w1 (N:=N) (by rw [← Hxs.out];exact HS.out w1 T.b) (by rw [← Hxs.out];exact Hl.out));have Hnx:Hid (n=xs.length):=by show _=_;rw [← Hxs.out];exact Hn.out
  rw [← Hnx.out] at Hct;obtain ⟨ct,hct⟩:∃ ct,xs.any nonT=ct:=⟨_,rfl⟩;rw [hct] at Hct;have Hcv:=Lib.hid hct;obtain ⟨b6,hb6⟩:∃ b6,(s.how==6)=b6:=⟨_,rfl⟩;obtain ⟨b7,hb7⟩:∃ b7,(s.how==7)=b7:=⟨_,rfl⟩;have Hb67:Hid ((b6=true∧b7=false∧s.how=6)∨(b6=false∧b7=true∧s.how=7)):=by
   rcases h67 with h | h
   ·exact .inl ⟨by rw [← hb6,h];rfl,by rw [← hb7,h];rfl,h⟩
   ·exact .inr ⟨by rw [← hb6,h];rfl,by rw [← hb7,h];rfl,h⟩
  clear hct;have Hflt:Hid ((x0.q::r0.map Tld.q).filter (fun x=> !txtB x)=(xs.filter nonT).map Tld.q):=by
   show _=_;rw [← List.map_cons,Hxs.out,List.filter_map];rfl
  cases ct with
  | false =>
   obtain ⟨g,hg⟩:∃ g,pickT (fun x m=>decide (0 < latC x m)) x0 r0=g:=⟨_,rfl⟩;have Hg:Hid (g.q.v=V):=by
    have h0:xs.filter nonT=[]:=by
     rw [List.filter_eq_nil_iff];intro y hy hh;have:=List.any_eq_true.2 ⟨y,hy,hh⟩
     rw [Hcv.out] at this;cases this
    show _=_;rw [← HV.out,← hg,pickT_q];unfold survP;rw [if_neg h2,if_neg h3,if_neg h4,if_neg h5,if_pos h67,Hflt.out,h0];rfl
   have Hmx:Hid (∀ w',Below w1.heap.size w1 w'→Calls Tryz.prog 185 #[.slice A n c,.func (.func 172) #[] #[]] w' fun e w''=>e=.returned (.agg (tlCs g))∧Below w'.heap.size w' w''):=fun w' h=>by rw [← hg];exact Hmax.out w' h
   clear hg Hmax Hlat Hel h2 h3 h4 h5 h67 Hflt Hcv;rcases Hb67.out with ⟨rfl,rfl,_⟩ | ⟨rfl,rfl,_⟩
   ·go_wp2_with fail
    ((with_reducible refine (Hct.out).mono ?_);rintro e w2 ⟨rfl,hl2⟩)
    replace T:=T.below hl2;have Hm2:=Lib.hid (Hmx.out w2 hl2);clear y0 hl2 Hct Hmx
    go_wp2_with fail
    ((with_reducible refine (Hm2.out).mono ?_);rintro e w8 ⟨rfl,hl8⟩)
    have T8:=T.below hl8;have hfd:=field3 g.q.no g.q.at' g.q.v.k g.q.v.n g.q.src g.q.v.t (.slice g.A g.n g.c) (.slice g.B g.m g.d) ⟨_,_,_,rfl⟩ ⟨_,_,_,rfl⟩;have l1:=(T8.lv 1 rfl).all;have T9:Mem w _ [.loc Y (svCs s As cA) 131,.loc Z #[.int .i64 g.q.v.k,.string g.q.v.t,.int .i64 g.q.v.n] 57]:=((T8.set 1 0 (.int .i64 g.q.v.k) rfl).set 1 1 (.string g.q.v.t) rfl).set 1 2 (.int .i64 g.q.v.n) rfl;clear T hl8 T8
    go_wp2_with fail
    exact bodyPost_ret (results_cell1 rfl rfl (loadV3 (T9.lv 1 rfl))) rfl ⟨by rw [Hg.out],T9.b⟩
   ·go_wp2_with fail
    ((with_reducible refine (Hct.out).mono ?_);rintro e w2 ⟨rfl,hl2⟩)
    replace T:=T.below hl2;have Hm2:=Lib.hid (Hmx.out w2 hl2);clear y0 hl2 Hct Hmx
    go_wp2_with fail
    ((with_reducible refine (Hm2.out).mono ?_);rintro e w8 ⟨rfl,hl8⟩)
    have T8:=T.below hl8;have hfd:=field3 g.q.no g.q.at' g.q.v.k g.q.v.n g.q.src g.q.v.t (.slice g.A g.n g.c) (.slice g.B g.m g.d) ⟨_,_,_,rfl⟩ ⟨_,_,_,rfl⟩;have l1:=(T8.lv 1 rfl).all;have T9:Mem w _ [.loc Y (svCs s As cA) 131,.loc Z #[.int .i64 g.q.v.k,.string g.q.v.t,.int .i64 g.q.v.n] 57]:=((T8.set 1 0 (.int .i64 g.q.v.k) rfl).set 1 1 (.string g.q.v.t) rfl).set 1 2 (.int .i64 g.q.v.n) rfl;clear T hl8 T8
    go_wp2_with fail
    exact bodyPost_ret (results_cell1 rfl rfl (loadV3 (T9.lv 1 rfl))) rfl ⟨by rw [Hg.out],T9.b⟩
  | true =>
   obtain ⟨z0,zr,hz⟩:∃ z0 zr,xs.filter nonT=z0::zr:=by
    obtain ⟨y,hy,hh⟩:=List.any_eq_true.1 Hcv.out;cases hq:xs.filter nonT with
    | nil=>exact absurd (List.mem_filter.2 ⟨hy,hh⟩) (by rw [hq];simp)
    | cons a b=>exact ⟨a,b,rfl⟩
   have Hz:=Lib.hid hz;have Hcl:=Lib.hid (fun w' (h:Below w1.heap.size w1 w')=>cloneTl_any N A xs c w' (by rw [← Hxs.out];exact HS.out w' (T.b.trans (h.mono T.b.size))) (by rw [← Hxs.out];have:=Hl.out;omega));rw [← Hnx.out] at Hcl;clear hz Hmax Hlat Hel;obtain ⟨sg,hsg⟩:∃ sg:Int,(if s.how=7 then -1 else 1)=sg:=⟨_,rfl⟩;have hsg1:sg=1∨sg=-1:=by rw [← hsg];split <;> simp
   obtain ⟨g,hg⟩:∃ g,pickT (fun x m=>decide (0 < bestC (numMs sg) x m)) z0 zr=g:=⟨_,rfl⟩;have Hg:Hid (g.q.v=V):=by
    show _=_;rw [← HV.out,← hg,pickT_q];unfold survP;rw [if_neg h2,if_neg h3,if_neg h4,if_neg h5,if_pos h67,Hflt.out,Hz.out,hsg];rfl
   have Hsv:Hid (∀ (V9 n9 c9:Nat) (A9:Option Addr) (w':World),n9=(z0::zr).length→Sl rTld (fun _=>False) w' A9 (z0::zr)→LV w' V9 #[.int .i64 sg] 3→Calls Tryz.prog 173 #[.slice A9 n9 c9,.func (.func 184) #[] #[.pointer (some ⟨V9,0,none⟩)]] w' fun e w''=>e=.returned (.agg #[.int .i64 g.q.v.k,.string g.q.v.t,.int .i64 g.q.v.n])∧Below w'.heap.size w' w''):=fun V9 n9 c9 A9 w' hn9 hS9 hV9=>by
    have hzm:∀ a∈z0::zr,a∈xs:=fun a ha=>by rw [← Hz.out] at ha;exact (List.mem_filter.1 ha).1
    have h:=best_any 184 #[.pointer (some ⟨V9,0,none⟩)] (numMs sg) (enters_of Tryz.func184 (by kernel_rfl) rfl) (fun _=>False) A9 z0 zr n9 c9 w' hS9 hn9 (by rw [← Hz.out];have h1:=List.length_filter_le nonT xs;have h2:=Hl.out;rw [Hxs.out] at h2;omega) (fun w'' a ha h=>sv5_any V9 sg a w'' (LV.kb3 hV9 h hV9.lt) hsg1 (Hok.out a (by rw [Hxs.out];exact hzm a ha)).2);rw [hg] at h;exact h
   have Hsg:=Lib.hid hsg;clear hg h2 h3 h4 h5 h67 Hflt Hcv hsg;rcases Hb67.out with ⟨rfl,rfl,h6⟩ | ⟨rfl,rfl,h7⟩
   ·obtain rfl:sg=1:=by rw [← Hsg.out,if_neg (by rw [h6];decide)]
    clear h6
    go_wp2_with fail
    ((with_reducible refine (Hct.out).mono ?_);rintro e w2 ⟨rfl,hl2⟩)
    replace T:=T.below hl2;have Hcl2:=Lib.hid (Hcl.out w2 hl2);clear y0 Hct Hcl
    go_wp2_with fail
    ((with_reducible refine (Hcl2.out).mono ?_);rintro e w3 ⟨A3,c3,rfl,M3⟩)
    have Hdl:=Lib.hid (delTl_any (fun a=>txtB a.q) 181 #[] (enters_of Tryz.func181 (by kernel_rfl) rfl) M3 (by rw [← Hxs.out];exact Hl.out) (fun y w' ys _ _=>textual_any y w'));clear Hcl2
    go_wp2_with fail
    ((with_reducible refine (Hdl.out).mono ?_);rintro e w4 ⟨v4,rfl,M4⟩)
    have M4':Mem w2 w4 [.own rTld w2.heap.size 110 v4 (z0::zr)]:=by
     have h:=M4;rw [show xs.filter (keepTl (fun a:Tld=>txtB a.q))=z0::zr from Hz.out] at h;exact h
    obtain ⟨A9,c9,rfl,M5⟩:=M4'.frz 0 rfl;have HS9:=Lib.hid ((M5.slc 0 rfl).mono (M:=fun _=>False) (fun _ _ h=>h.elim));replace T:=T.below M5.b;obtain ⟨n9,hn9⟩:∃ n9,(z0::zr).length=n9:=⟨_,rfl⟩;rw [hn9];have Hn9:=Lib.hid hn9.symm;clear Hdl M3 M4 M4' M5 hn9
    go_upto_region 21 with fail
    obtain ⟨V9,hV9⟩:∃ V9,V9=w4.heap.size:=⟨_,rfl⟩;have T5:Mem w (w4.alloc (.cells #[.int .i64 1] 3)) [.loc Y (svCs s As cA) 131,.loc Z #[.int .i64 0,.string ⟨#[]⟩,.int .i64 0] 57,.loc V9 #[.int .i64 1] 3]:=T.newAt #[.int .i64 1] 3 V9 hV9;have hb45:Below w4.heap.size w4 (w4.alloc (.cells #[.int .i64 1] 3)):=(Below.refl _ _).alloc (Nat.le_refl _) _;have HV9:Hid (w4.heap.size≤V9):=Nat.le_of_eq hV9.symm;rw [← hV9];clear hV9 T;generalize w4.alloc (.cells #[.int .i64 1] 3)=w5 at *;have y0:=(T5.lv 0 rfl).all;have v0:=(T5.lv 2 rfl).all;have Hbb:=Lib.hid (Hsv.out V9 n9 c9 A9 w5 Hn9.out (HS9.out.keepB hb45) (T5.lv 2 rfl));have T7:=T5.del 2;clear hb45 T5 Hsv
    go_wp2_with fail
    ((with_reducible refine (Hbb.out).mono ?_);rintro e w8 ⟨rfl,hl8⟩)
    have T8:=(T7).below hl8;have l1:=(T8.lv 1 rfl).all;have T9:Mem w _ [.loc Y (svCs s As cA) 131,.loc Z #[.int .i64 g.q.v.k,.string g.q.v.t,.int .i64 g.q.v.n] 57]:=((T8.set 1 0 (.int .i64 g.q.v.k) rfl).set 1 1 (.string g.q.v.t) rfl).set 1 2 (.int .i64 g.q.v.n) rfl;clear hl8 T8
    go_wp2_with fail
    exact bodyPost_ret (results_cell1 rfl rfl (loadV3 (T9.lv 1 rfl))) rfl ⟨by rw [Hg.out],T9.b⟩
   ·obtain rfl:sg=-1:=by rw [← Hsg.out,if_pos h7]
    clear h7
    go_wp2_with fail
    ((with_reducible refine (Hct.out).mono ?_);rintro e w2 ⟨rfl,hl2⟩)
    replace T:=T.below hl2;have Hcl2:=Lib.hid (Hcl.out w2 hl2);clear y0 Hct Hcl
    go_wp2_with fail
    ((with_reducible refine (Hcl2.out).mono ?_);rintro e w3 ⟨A3,c3,rfl,M3⟩)
    have Hdl:=Lib.hid (delTl_any (fun a=>txtB a.q) 181 #[] (enters_of Tryz.func181 (by kernel_rfl) rfl) M3 (by rw [← Hxs.out];exact Hl.out) (fun y w' ys _ _=>textual_any y w'));clear Hcl2
    go_wp2_with fail
    ((with_reducible refine (Hdl.out).mono ?_);rintro e w4 ⟨v4,rfl,M4⟩)
    have M4':Mem w2 w4 [.own rTld w2.heap.size 110 v4 (z0::zr)]:=by
     have h:=M4;rw [show xs.filter (keepTl (fun a:Tld=>txtB a.q))=z0::zr from Hz.out] at h;exact h
    obtain ⟨A9,c9,rfl,M5⟩:=M4'.frz 0 rfl;have HS9:=Lib.hid ((M5.slc 0 rfl).mono (M:=fun _=>False) (fun _ _ h=>h.elim));replace T:=T.below M5.b;obtain ⟨n9,hn9⟩:∃ n9,(z0::zr).length=n9:=⟨_,rfl⟩;rw [hn9];have Hn9:=Lib.hid hn9.symm;clear Hdl M3 M4 M4' M5 hn9
    go_upto_region 21 with fail
    obtain ⟨V9,hV9⟩:∃ V9,V9=w4.heap.size:=⟨_,rfl⟩;have T5:Mem w (w4.alloc (.cells #[.int .i64 1] 3)) [.loc Y (svCs s As cA) 131,.loc Z #[.int .i64 0,.string ⟨#[]⟩,.int .i64 0] 57,.loc V9 #[.int .i64 1] 3]:=T.newAt #[.int .i64 1] 3 V9 hV9;have hb45:Below w4.heap.size w4 (w4.alloc (.cells #[.int .i64 1] 3)):=(Below.refl _ _).alloc (Nat.le_refl _) _;have HV9:Hid (w4.heap.size≤V9):=Nat.le_of_eq hV9.symm;rw [← hV9];clear hV9 T;generalize w4.alloc (.cells #[.int .i64 1] 3)=w5 at *;have y0:=(T5.lv 0 rfl).all;have v0:=(T5.lv 2 rfl).all;have T6:Mem w (w5.setCell ⟨V9,0,none⟩ (.int .i64 (-1))) [.loc Y (svCs s As cA) 131,.loc Z #[.int .i64 0,.string ⟨#[]⟩,.int .i64 0] 57,.loc V9 #[.int .i64 (-1)] 3]:=T5.set 2 0 (.int .i64 (-1)) rfl;have hb56:Below w4.heap.size w4 (w5.setCell ⟨V9,0,none⟩ (.int .i64 (-1))):=hb45.setCell (p:=⟨V9,0,none⟩) HV9.out _
    go_upto_region 23 with fail
    clear y0 v0;generalize w5.setCell ⟨V9,0,none⟩ (.int .i64 (-1))=w6 at *;have Hbb:=Lib.hid (Hsv.out V9 n9 c9 A9 w6 Hn9.out (HS9.out.keepB hb56) (T6.lv 2 rfl));have T7:=T6.del 2;clear hb45 hb56 T5 T6 Hsv
    go_wp2_with fail
    ((with_reducible refine (Hbb.out).mono ?_);rintro e w8 ⟨rfl,hl8⟩)
    have T8:=(T7).below hl8;have l1:=(T8.lv 1 rfl).all;have T9:Mem w _ [.loc Y (svCs s As cA) 131,.loc Z #[.int .i64 g.q.v.k,.string g.q.v.t,.int .i64 g.q.v.n] 57]:=((T8.set 1 0 (.int .i64 g.q.v.k) rfl).set 1 1 (.string g.q.v.t) rfl).set 1 2 (.int .i64 g.q.v.n) rfl;clear hl8 T8
    go_wp2_with fail
    exact bodyPost_ret (results_cell1 rfl rfl (loadV3 (T9.lv 1 rfl))) rfl ⟨by rw [Hg.out],T9.b⟩
 ·have e6:(s.how==6)=false:=by simpa using fun e=>h67 (.inl e)
  have e7:(s.how==7)=false:=by simpa using fun e=>h67 (.inr e)
  obtain ⟨g,hg⟩:∃ g,pickT (fun x m=>decide (0 < latC x m)) x0 r0=g:=⟨_,rfl⟩;have Hm:=Lib.hid (Hmax.out w1 (Below.refl _ _));rw [hg] at Hm;have Hg:Hid (g.q.v=V):=by
   show _=_;rw [← HV.out,← hg,pickT_q];unfold survP;rw [if_neg h2,if_neg h3,if_neg h4,if_neg h5,if_neg h67];rfl
  clear hg Hmax Hlat Hel h2 h3 h4 h5 h67
  go_wp2_with fail
  ((with_reducible refine (Hm.out).mono ?_);rintro e w8 ⟨rfl,hl8⟩)
  have T8:=T.below hl8;have hfd:=field3 g.q.no g.q.at' g.q.v.k g.q.v.n g.q.src g.q.v.t (.slice g.A g.n g.c) (.slice g.B g.m g.d) ⟨_,_,_,rfl⟩ ⟨_,_,_,rfl⟩;have l1:=(T8.lv 1 rfl).all;have T9:Mem w _ [.loc Y (svCs s As cA) 131,.loc Z #[.int .i64 g.q.v.k,.string g.q.v.t,.int .i64 g.q.v.n] 57]:=((T8.set 1 0 (.int .i64 g.q.v.k) rfl).set 1 1 (.string g.q.v.t) rfl).set 1 2 (.int .i64 g.q.v.n) rfl;clear T hl8 T8
  go_wp2_with fail
  exact bodyPost_ret (results_cell1 rfl rfl (loadV3 (T9.lv 1 rfl))) rfl ⟨by rw [Hg.out],T9.b⟩
end
section
open Go Go.RowKit
def srvAt (l:List Srv)(nm:ByteArray):Option Srv:=l.find? (fun y=>y.name.toList==nm.toList)
def RiseV (xs:List Srv):Prop:=∀ (i j:Nat) (f g:Srv),i < j→xs[i]? =some f→xs[j]? =some g→ltS f.name g.name=true
theorem svF_zero {prev:Option ByteArray}{s:Srv}(h:svF prev s=0):1≤s.how∧s.how≤7∧∀ q,prev=some q→ltS q s.name=true:=by
 unfold svF svE at h;split at h
 ·omega
 split at h
 ·omega
 rename_i h1 h2
 split at h
 ·omega
 split at h
 ·omega
 rename_i h3 h4
 have h5:isHow s.how=true:=by simpa using h2
 have h6:=of_decide_eq_true h5;refine ⟨h6.1,h6.2,fun q e=>?_⟩;subst e;simp only [Option.any_some,Bool.not_eq_true] at h4
 unfold leS at h4;rw [Bool.or_eq_false_iff] at h4;exact bytes_tri _ _ h4.1 h4.2
theorem svsGo_ok:∀ {l:List Srv} {prev:Option ByteArray},svsGo prev l=0→(∀ q,prev=some q→∀ s∈l,ltS q s.name=true)∧l.Pairwise (fun a b=>ltS a.name b.name=true)
 | [],_,_=>⟨(fun _ _ _ h=>by cases h),List.Pairwise.nil⟩
 | s::r,prev,h=>by
  rw [svsGo] at h;have hx:svF prev s=0:=by
   by_cases e:svF prev s≠0
   ·rw [if_pos e] at h;exact absurd h e
   ·omega
  rw [if_neg (by omega)] at h;obtain ⟨i1,i2⟩:=svsGo_ok h;obtain ⟨_,_,h3⟩:=svF_zero hx;refine ⟨fun q e x hx=>?_,List.pairwise_cons.2 ⟨fun x hx=>i1 _ rfl x hx,i2⟩⟩;rcases List.mem_cons.1 hx with rfl | hx
  ·exact h3 q e
  ·exact ltS_trans (h3 q e) (i1 _ rfl x hx)
theorem rul_surv {r:Rul}(h:rulFault r=0):RiseV r.surv∧r.surv.length≤30:=by
 have h1:svsFault r.surv=0:=by
  unfold rulFault rulE at h;split at h
  ·omega
  split at h
  ·omega
  split at h
  ·omega
  split at h
  ·omega
  split at h
  ·omega
  exact h
 unfold svsFault at h1;split at h1
 ·omega
 have h2:=(svsGo_ok h1).2;refine ⟨fun i j f g hij hi hj=>?_,by omega⟩;obtain ⟨hi',rfl⟩:=List.getElem?_eq_some_iff.1 hi;obtain ⟨hj',rfl⟩:=List.getElem?_eq_some_iff.1 hj;exact List.pairwise_iff_getElem.1 h2 i j hi' hj' hij
def GivesSv (xs:List Srv)(nm:ByteArray)(w:World)(e:Ending)(w':World):Prop :=
 ∃ (i:Nat) (b:Bool),e=.returned (.tuple #[.int .i64 i,.bool b])∧i≤xs.length∧(b=true→∃ p,xs[i]? =some p∧srvAt xs nm=some p)∧(b=false→srvAt xs nm=none)∧Below w.heap.size w w'
theorem svs1_any (p:Srv)(At:Option Addr)(n ct:Nat)(nm:ByteArray)(w:World) :
  Calls Tryz.prog 113 #[.agg #[.string p.name,.int .i64 p.how,.slice At n ct],.string nm] w fun e w'=>e=.returned (.int .i64 (cmpS p.name nm))∧Below w.heap.size w w':=by
 have Hb:Hid (Below w.heap.size w (w.alloc (.cells #[.string p.name,.int .i64 p.how,.slice At n ct] 131))):=(Below.refl _ _).alloc (Nat.le_refl _) _
 go_enter Tryz.func113,Tryz.ntmps113
 go_wp2_with fail
 ((with_reducible refine (compareS_any p.name nm _).mono ?_);rintro e _ ⟨rfl,rfl⟩)
 go_wp2_with fail
 go_ret
 exact ⟨rfl,Hb.out⟩
set_option maxHeartbeats 4000000 in
set_option maxRecDepth 100000 in
theorem bsearchV_any (N:Nat→Prop)(A:Option Addr)(xs:List Srv)(nm:ByteArray)(c:Nat)(w:World)(hS:Sl rSrv N w A xs)(hn:xs.length≤1000)(hri:RiseV xs) :
  Calls Tryz.prog 112 #[.slice A xs.length c,.string nm,.func (.func 113) #[] #[]] w (GivesSv xs nm w):=by
 have HS:=Lib.hid hS;have Hri:=Lib.hid hri;clear hS hri
 go_enter Tryz.func112,Tryz.ntmps112
 go_wp2_with fail
 go_loopw [9,10] (fun a b wr=>∃ i j:Nat,i≤j∧j≤xs.length∧a=.int .i64 i∧b=.int .i64 j∧(∀ p f,p < i→xs[p]? =some f→ltS f.name nm=true)∧(∀ p f,j≤p→xs[p]? =some f→ltS f.name nm=false)∧Below w.heap.size w wr) (fun a b _=>(intOf b - intOf a).toNat)
 case atStart=>exact ⟨0,xs.length,by omega,by omega,rfl,rfl,(fun p f h=>by omega),(fun p f h hp=>by rw [List.getElem?_eq_none h] at hp;cases hp),Below.refl _ _⟩
 case round =>
  obtain ⟨i,j,hij,hj,rfl,rfl,hlo,hhi,hbl⟩:=hrel;have Hlo:=Lib.hid hlo;have Hhi:=Lib.hid hhi;have hsz:=hbl.size;clear hlo hhi;by_cases hlt:i < j
  ·obtain ⟨h,hh⟩:∃ h:Nat,h=(i + j) / 2:=⟨_,rfl⟩;have h1:i≤h:=by omega
   have h2:h < j:=by omega
   have eh:((i:Int) + (j:Int)) / 2=(h:Int):=by omega
   clear hh;obtain ⟨f,hf⟩:∃ f,xs[h]? =some f:=⟨_,List.getElem?_eq_getElem (by omega)⟩;have Hf:=Lib.hid hf;clear hf;obtain ⟨blk,off,At,ct,rfl,hblk,d0,d1,d2,_,_⟩:=(HS.out.keepB hbl).srv _ f Hf.out
   go_wp2_with fail
   ((with_reducible refine (svs1_any f At f.srcs.length ct nm _).mono ?_);rintro e w1 ⟨rfl,hl_w1⟩)
   have hz_w1:=hl_w1.size;have Hb1:Hid (Below w.heap.size w w1):=hbl.trans (hl_w1.mono hsz);have Hcn:=Lib.hid (cmpS_neg f.name nm);generalize cmpS f.name nm=cm at *;clear d0 d1 d2;clear hl_w1 hz_w1;by_cases hc:cm < 0
   ·have Hl:Hid (∀ p g,p < h + 1→xs[p]? =some g→ltS g.name nm=true):=fun p g hp hg=>by
     by_cases hph:p=h
     ·subst hph;rw [Hf.out] at hg;cases hg
      exact Hcn.out.1 hc
     ·exact ltS_trans (Hri.out p h g f (by omega) hg Hf.out) (Hcn.out.1 hc)
    go_wp2_with fail
    go_roundw
    case rel=>exact ⟨h + 1,j,by omega,by omega,by go_num,rfl,Hl.out,Hhi.out,Hb1.out⟩
    case measure=>simp [intOf];omega
   ·have hnl:ltS f.name nm=false:=by
     cases hx:ltS f.name nm
     ·rfl
     ·exact absurd (Hcn.out.2 hx) hc
    have Hl:Hid (∀ p g,h≤p→xs[p]? =some g→ltS g.name nm=false):=fun p g hp hg=>by
     by_cases hph:p=h
     ·subst hph;rw [Hf.out] at hg;cases hg
      exact hnl
     ·cases hx:ltS g.name nm
      ·rfl
      ·rw [ltS_trans (Hri.out h p f g (by omega) Hf.out hg) hx] at hnl;cases hnl
    clear hnl
    go_wp2_with fail
    go_roundw
    case rel=>exact ⟨i,h,by omega,by omega,rfl,rfl,Hlo.out,Hl.out,Hb1.out⟩
    case measure=>simp [intOf];omega
  ·obtain rfl:i=j:=by omega
   have Hne:Hid (∀ p g,p≠i→xs[p]? =some g→g.name≠nm):=fun p g hp hg e=>by
    rcases Nat.lt_or_ge p i with hlt | hge
    ·have:=Hlo.out p g hlt hg
     rw [e,ltS_irr] at this;cases this
    ·by_cases hli:i < xs.length
     ·have h3:=Hri.out i p xs[i] g (by omega) (List.getElem?_eq_getElem hli) hg;rw [e] at h3;rw [Hhi.out i xs[i] (Nat.le_refl _) (List.getElem?_eq_getElem hli)] at h3;cases h3
     ·have:=lt_of_get hg
      omega
   by_cases hlen:i < xs.length
   ·obtain ⟨f,hf⟩:∃ f,xs[i]? =some f:=⟨_,List.getElem?_eq_getElem hlen⟩;have Hf:=Lib.hid hf;clear hf;obtain ⟨blk,off,At,ct,rfl,hblk,d0,d1,d2,_,_⟩:=(HS.out.keepB hbl).srv _ f Hf.out
    go_wp2_with fail
    ((with_reducible refine (svs1_any f At f.srcs.length ct nm _).mono ?_);rintro e w1 ⟨rfl,hl_w1⟩)
    have hz_w1:=hl_w1.size;have Hb1:Hid (Below w.heap.size w w1):=hbl.trans (hl_w1.mono hsz);obtain ⟨cm,Hcm⟩:∃ cm,Hid (cmpS f.name nm=cm):=⟨_,Lib.hid rfl⟩;rw [Hcm.out];clear d0 d1 d2;clear hl_w1 hz_w1
    go_wp2_with fail
    go_ret2
    refine ⟨i,(cm==0),rfl,by omega,fun h=>⟨f,Hf.out,find_rise (nm:=Srv.name) Hri.out Hf.out ((cmpS_zero _ _).1 (by rw [Hcm.out];simpa using h))⟩,fun h=>find_no (nm:=Srv.name) fun p hp e=>?_,Hb1.out⟩;obtain ⟨q,hq⟩:=List.mem_iff_getElem?.1 hp;by_cases hqi:q=i
    ·subst hqi;rw [Hf.out] at hq;cases hq
     rw [← Hcm.out,(cmpS_zero _ _).2 e] at h;cases h
    ·exact Hne.out q p hqi hq e
   ·go_wp2_with fail
    go_ret2
    refine ⟨i,false,rfl,by omega,(fun h=>by cases h),fun _=>find_no (nm:=Srv.name) fun p hp e=>?_,hbl⟩;obtain ⟨q,hq⟩:=List.mem_iff_getElem?.1 hp;exact Hne.out q p (by have:=lt_of_get hq;omega) hq e
def surHow (r:Rul)(nm:ByteArray):Int:=match srvAt r.surv nm with | some s=>s.how | none=>1
def surSrc (r:Rul)(nm:ByteArray):List ByteArray:=match srvAt r.surv nm with | some s=>s.srcs | none=>[]
set_option maxHeartbeats 4000000 in
set_option maxRecDepth 100000 in
theorem survives_any (G X:Nat)(r:Rul)(K W S A:Option Addr)(ck cw cs c:Nat)(ts:List Tch)(hqs:List HQ)(nm:ByteArray)(M:Nat→Prop)(A5:Option Addr)(x0:Tld)(r0:List Tld)(n c5:Nat)(w:World)(hG:Grp (fun _=>False) w G X r K W S A ck cw cs c ts hqs)(hsv:RiseV r.surv)(hsl:r.surv.length≤30)(hss:∀ s∈r.surv,s.srcs.length≤1000000)
  (hS:Sl rTld M w A5 (x0::r0)) (hn:n=(x0::r0).length) (hl:(x0::r0).length≤1000000) (hok:∀ a∈x0::r0,a.q.v.t.size≤1000000∧-4611686018427387904≤a.q.v.n∧a.q.v.n≤4611686018427387904) :
  Calls Tryz.prog 54 #[.pointer (some ⟨G,0,none⟩),.string nm,.slice A5 n c5] w fun e w'=>e=.returned (.agg #[.int .i64 (survP (surHow r nm) (surSrc r nm) x0.q (r0.map Tld.q)).v.k,.string (survP (surHow r nm) (surSrc r nm) x0.q (r0.map Tld.q)).v.t,.int .i64 (survP (surHow r nm) (surSrc r nm) x0.q (r0.map Tld.q)).v.n])∧Below w.heap.size w w':=by
 have HG:=Lib.hid (fun w' (h:Below w.heap.size w w')=>(hG.keepB h).g);have HSv:=Lib.hid (fun w' (h:Below w.heap.size w w')=>(hG.keepB h).r.sv);have HS5:=Lib.hid (fun w' (h:Below w.heap.size w w')=>hS.keepB h);have Hss:=Lib.hid hss;have Hok:=Lib.hid hok;have Hn:=Lib.hid hn;have Hl:=Lib.hid hl;obtain ⟨V,hV⟩:∃ V,survP (surHow r nm) (surSrc r nm) x0.q (r0.map Tld.q)=V:=⟨_,rfl⟩;rw [hV];have HV:=Lib.hid hV;obtain ⟨Z,hZ⟩:∃ Z,Z=w.heap.size:=⟨_,rfl⟩;have T:Mem w (w.alloc (.cells #[.int .i64 0,.string ⟨#[]⟩,.int .i64 0] 57)) [.loc Z #[.int .i64 0,.string ⟨#[]⟩,.int .i64 0] 57]:=(Mem.start w).newAt _ 57 Z hZ;have Hbs:=Lib.hid (fun w' (h:Below w.heap.size w w')=>bsearchV_any (fun _=>False) S r.surv nm cs w' (HSv.out w' h) (by omega) hsv);clear hG hS hss hok hn hl hV hsv
 go_enter Tryz.func54,Tryz.ntmps54
 go_upto_region 1 with fail
 rw [← hZ];clear hZ;generalize w.alloc (.cells #[.int .i64 0,.string ⟨#[]⟩,.int .i64 0] 57)=w1 at *;have g0:=(HG.out w1 T.b).all
 go_wp2_with fail
 ((with_reducible refine (Hbs.out w1 T.b).mono ?_);rintro e w2 ⟨i,b,rfl,hi,hbt,hbf,hl2⟩)
 have Hbt:=Lib.hid hbt;have Hbf:=Lib.hid hbf;have T2:=T.below hl2;clear T g0 hbt hbf hl2 Hbs;cases b
 ·have Hq:=Hbf.out rfl;have e1:surHow r nm=1:=by unfold surHow;rw [Hq]
  have e2:surSrc r nm=[]:=by unfold surSrc;rw [Hq]
  have hs:=survivor_any M ⟨⟨#[]⟩,1,[]⟩ none 0 A5 x0 r0 n c5 w2 Sl.nil (by simp) (HS5.out w2 T2.b) Hn.out Hl.out Hok.out;have HV2:=HV.out;rw [e1,e2] at HV2;rw [show survP (Srv.how ⟨⟨#[]⟩,1,[]⟩) (Srv.srcs ⟨⟨#[]⟩,1,[]⟩) x0.q (r0.map Tld.q)=V from HV2] at hs;have Hs:Hid (Calls Tryz.prog 114 #[.agg #[.string ⟨#[]⟩,.int .i64 1,.slice none 0 0],.slice A5 n c5] w2 fun e w'=>e=.returned (.agg #[.int .i64 V.v.k,.string V.v.t,.int .i64 V.v.n])∧Below w2.heap.size w2 w'):=hs;clear hs;have z0:=(T2.lv 0 rfl).all;clear Hq e1 e2 HV2
  go_wp2_with fail
  ((with_reducible refine (Hs.out).mono ?_);rintro e w3 ⟨rfl,hl3⟩)
  have T3:=T2.below hl3;have l1:=(T3.lv 0 rfl).all;have T9:Mem w _ [.loc Z #[.int .i64 V.v.k,.string V.v.t,.int .i64 V.v.n] 57]:=((T3.set 0 0 (.int .i64 V.v.k) rfl).set 0 1 (.string V.v.t) rfl).set 0 2 (.int .i64 V.v.n) rfl;clear T2 hl3 T3 z0
  go_wp2_with fail
  exact bodyPost_ret (results_cell1 rfl rfl (loadV3 (T9.lv 0 rfl))) rfl ⟨rfl,T9.b⟩
 ·obtain ⟨s,hsi,hsat⟩:=Hbt.out rfl;have e1:surHow r nm=s.how:=by unfold surHow;rw [hsat]
  have e2:surSrc r nm=s.srcs:=by unfold surSrc;rw [hsat]
  obtain ⟨bs,os,As,cA,rfl,hbs,d0,d1,d2,_,hsr⟩:=(HSv.out w2 T2.b).srv i s hsi;have hil:i < r.surv.length:=lt_of_get hsi;have Hs:=Lib.hid (survivor_any (fun _=>False) s As cA A5 x0 r0 n c5 w2 hsr (Hss.out s (List.mem_of_getElem? hsi)) ((HS5.out w2 T2.b).mono (fun _ _ h=>h.elim)) Hn.out Hl.out Hok.out);have HV2:=HV.out;rw [e1,e2] at HV2;rw [HV2] at Hs;have g0:=(HG.out w2 T2.b).all;clear hsi hsat e1 e2 HV2 hsr
  go_wp2_with fail
  ((with_reducible refine (Hs.out).mono ?_);rintro e w3 ⟨rfl,hl3⟩)
  have T3:=T2.below hl3;have l1:=(T3.lv 0 rfl).all;have T9:Mem w _ [.loc Z #[.int .i64 V.v.k,.string V.v.t,.int .i64 V.v.n] 57]:=((T3.set 0 0 (.int .i64 V.v.k) rfl).set 0 1 (.string V.v.t) rfl).set 0 2 (.int .i64 V.v.n) rfl;clear T2 hl3 T3 g0 d0 d1 d2
  go_wp2_with fail
  exact bodyPost_ret (results_cell1 rfl rfl (loadV3 (T9.lv 0 rfl))) rfl ⟨rfl,T9.b⟩
end
end Go.Proofs.YtfdcgedcfafmcaaGreatDoor
