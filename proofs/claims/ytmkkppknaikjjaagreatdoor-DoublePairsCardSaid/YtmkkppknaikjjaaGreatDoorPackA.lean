/- Several texts in one: Told, BestT, BestB, RuneN, KeyVt. -/
import Derived.Test.YtmkkppknaikjjaaGreatDoorPackU
import Derived.Lib.RuneCountTail
/- Told values: rows of eight cells; when one is later than another. -/
set_option maxHeartbeats 4000000
set_option maxRecDepth 100000
open Go.Lib renaming hid→Z9, compareInt→ZL, decodeGo→ZI
open List renaming getElem?_eq_getElem→Z8, mem_of_getElem?→Z7, length_cons→ZV, map_cons→Zt, mem_cons→YU, not_mem_nil→YI
open Nat renaming le_refl→Z5, zero_add→Zh
open Go.RowKit.Below renaming refl→ZX
open Bool renaming and_eq_true→ZQ, eq_iff_iff→Y7
namespace Go.Proofs.YtmkkppknaikjjaaGreatDoor
section
open Go Go.RowKit
structure Vt where
 k:Int
 t:ByteArray
 n:Int
deriving DecidableEq
structure Tc where
 no:Int
 at':Int
 src:ByteArray
 v:Vt
structure aj where
 q:Tc
 A:Option Addr
 n:Nat
 c:Nat
 B:Option Addr
 m:Nat
 d:Nat
def aj.cells (t:aj):List Value:=[.int .i64 t.q.no,.int .i64 t.q.at',.string t.q.src,.slice t.A t.n t.c,.slice t.B t.m t.d,.int .i64 t.q.v.k,.string t.q.v.t,.int .i64 t.q.v.n]
abbrev aG (t:aj):Array Value:=#[.int .i64 t.q.no,.int .i64 t.q.at',.string t.q.src,.slice t.A t.n t.c,.slice t.B t.m t.d,.int .i64 t.q.v.k,.string t.q.v.t,.int .i64 t.q.v.n]
def bU:Rep aj:=.flat 8 aj.cells (fun _=>rfl)
theorem jF:bU.Flat aj.cells:=fun _ _ _ _=>Iff.rfl
theorem Ii (s:aj):∀ u∈s.cells,u.oneCell'=true:=fun u hu=>by
 simp only [aj.cells,YU,YI,or_false] at hu;rcases hu with rfl | rfl | rfl | rfl | rfl | rfl | rfl | rfl <;> rfl
theorem Sl.wK {N:Nat→Prop}{w:World}{A:Option Addr}{xs:List aj}(h:Sl bU N w A xs)(k:Nat)(s:aj)(hk:xs[k]? =some s):∃ blk off,A=some ⟨blk,off,none⟩∧blk < w.heap.size ∧
  w.cell? ⟨blk,off + k * 8,none⟩=some (.int .i64 s.q.no)∧w.cell? ⟨blk,off + k * 8 + 1,none⟩=some (.int .i64 s.q.at')∧w.cell? ⟨blk,off + k * 8 + 2,none⟩=some (.string s.q.src)∧w.cell? ⟨blk,off + k * 8 + 3,none⟩=some (.slice s.A s.n s.c) ∧
  w.cell? ⟨blk,off + k * 8 + 4,none⟩=some (.slice s.B s.m s.d)∧w.cell? ⟨blk,off + k * 8 + 5,none⟩=some (.int .i64 s.q.v.k)∧w.cell? ⟨blk,off + k * 8 + 6,none⟩=some (.string s.q.v.t)∧w.cell? ⟨blk,off + k * 8 + 7,none⟩=some (.int .i64 s.q.v.n):=by
 obtain ⟨blk,off,l,e1,h1,_,h3,h4⟩:=h k s hk;obtain rfl:l=aj.cells s:=h3;exact ⟨blk,off,e1,h1,h4 0 _ rfl,h4 1 _ rfl,h4 2 _ rfl,h4 3 _ rfl,h4 4 _ rfl,h4 5 _ rfl,h4 6 _ rfl,h4 7 _ rfl⟩
def ou (a b:Tc):Int:=if ZL a.at' b.at'≠0 then ZL a.at' b.at' else ZL a.no b.no
def Dk (X Y:Nat)(a b:aj)(T:TypeId)(w:World):Prop:=LV w X (aG a) T∧LV w Y (aG b) T
theorem Dk.keep {X Y:Nat}{a b:aj}{T:TypeId}{w w':World}(h:Dk X Y a b T w)(k:Below w.heap.size w w'):Dk X Y a b T w':=⟨LV.dQ h.1 k h.1.lt,LV.dQ h.2 k h.2.lt⟩
theorem Yh (w:World)(a b:aj)(T:TypeId):Dk w.heap.size (w.heap.size + 1) a b T ((w.alloc (.cells (aG a) T)).alloc (.cells (aG b) T)) :=
 ⟨(LV.new w w.heap.size (aG a) T rfl).alloc _,LV.new (w.alloc (.cells (aG a) T)) (w.heap.size + 1) (aG b) T (by simp)⟩
theorem FH {w:World}{X:Nat}{t:aj}(h:LV w X (aG t) 266):(Instr.loadAt 266 (.pointer (some ⟨X,0,none⟩))).run Tryz.prog w=.ok (.agg (aG t)) w:=by
 have c0:=h.all;go_simp
theorem Yi {w:World}{X:Nat}{t:aj}(h:LV w X (aG t) 266):(loadVar 266 ⟨X,0,none⟩).run Tryz.prog w=.ok (.agg (aG t)) w:=by
 have c0:=h.all;go_simp
theorem WA {w:World}{X:Nat}{t:aj}(h:LV w X (aG t) 214):(Instr.loadAt 214 (.pointer (some ⟨X,0,none⟩))).run Tryz.prog w=.ok (.agg (aG t)) w:=by
 have c0:=h.all;go_simp
theorem ad1 {w:World}{X:Nat}{t:aj}(h:LV w X (aG t) 214):(loadVar 214 ⟨X,0,none⟩).run Tryz.prog w=.ok (.agg (aG t)) w:=by
 have c0:=h.all;go_simp
theorem Jd:kF 187 266 bU.size 112 (.agg #[.int .i64 0,.int .i64 0,.string ⟨#[]⟩,.slice none 0 0,.slice none 0 0,.int .i64 0,.string ⟨#[]⟩,.int .i64 0]):=⟨Tryz.underlying187,by kernel_rfl,rfl,by decide⟩
theorem WO:kF 212 214 bU.size 112 (.agg #[.int .i64 0,.int .i64 0,.string ⟨#[]⟩,.slice none 0 0,.slice none 0 0,.int .i64 0,.string ⟨#[]⟩,.int .i64 0]):=⟨Tryz.underlying212,by kernel_rfl,rfl,by decide⟩
theorem Mem.zB {w0 w:World}{cs:List Chunk}{X:Nat}{T:TypeId}{v0 v1 v2 v3 v4 v5 v6 v7:Value}(S:Mem w0 w (.loc X #[v0,v1,v2,v3,v4,v5,v6,v7] T::cs))(t:aj):Mem w0 ((((((((w.setCell ⟨X,0,none⟩ (.int .i64 t.q.no)).setCell ⟨X,1,none⟩ (.int .i64 t.q.at')).setCell ⟨X,2,none⟩ (.string t.q.src)).setCell ⟨X,3,none⟩ (.slice t.A t.n t.c)).setCell ⟨X,4,none⟩ (.slice t.B t.m t.d)).setCell ⟨X,5,none⟩ (.int .i64 t.q.v.k)).setCell ⟨X,6,none⟩ (.string t.q.v.t)).setCell ⟨X,7,none⟩ (.int .i64 t.q.v.n)) (.loc X (aG t) T::cs):=by
 have h0:Mem w0 (w.setCell ⟨X,0,none⟩ (.int .i64 t.q.no)) (.loc X #[.int .i64 t.q.no,v1,v2,v3,v4,v5,v6,v7] T::cs):=S.set 0 0 (.int .i64 t.q.no) rfl;have h1:Mem w0 ((w.setCell ⟨X,0,none⟩ (.int .i64 t.q.no)).setCell ⟨X,1,none⟩ (.int .i64 t.q.at')) (.loc X #[.int .i64 t.q.no,.int .i64 t.q.at',v2,v3,v4,v5,v6,v7] T::cs):=h0.set 0 1 (.int .i64 t.q.at') rfl;have h2:Mem w0 (((w.setCell ⟨X,0,none⟩ (.int .i64 t.q.no)).setCell ⟨X,1,none⟩ (.int .i64 t.q.at')).setCell ⟨X,2,none⟩ (.string t.q.src)) (.loc X #[.int .i64 t.q.no,.int .i64 t.q.at',.string t.q.src,v3,v4,v5,v6,v7] T::cs):=h1.set 0 2 (.string t.q.src) rfl;have h3:Mem w0 ((((w.setCell ⟨X,0,none⟩ (.int .i64 t.q.no)).setCell ⟨X,1,none⟩ (.int .i64 t.q.at')).setCell ⟨X,2,none⟩ (.string t.q.src)).setCell ⟨X,3,none⟩ (.slice t.A t.n t.c)) (.loc X #[.int .i64 t.q.no,.int .i64 t.q.at',.string t.q.src,.slice t.A t.n t.c,v4,v5,v6,v7] T::cs):=h2.set 0 3 (.slice t.A t.n t.c) rfl;have h4:Mem w0 (((((w.setCell ⟨X,0,none⟩ (.int .i64 t.q.no)).setCell ⟨X,1,none⟩ (.int .i64 t.q.at')).setCell ⟨X,2,none⟩ (.string t.q.src)).setCell ⟨X,3,none⟩ (.slice t.A t.n t.c)).setCell ⟨X,4,none⟩ (.slice t.B t.m t.d)) (.loc X #[.int .i64 t.q.no,.int .i64 t.q.at',.string t.q.src,.slice t.A t.n t.c,.slice t.B t.m t.d,v5,v6,v7] T::cs):=h3.set 0 4 (.slice t.B t.m t.d) rfl;have h5:Mem w0 ((((((w.setCell ⟨X,0,none⟩ (.int .i64 t.q.no)).setCell ⟨X,1,none⟩ (.int .i64 t.q.at')).setCell ⟨X,2,none⟩ (.string t.q.src)).setCell ⟨X,3,none⟩ (.slice t.A t.n t.c)).setCell ⟨X,4,none⟩ (.slice t.B t.m t.d)).setCell ⟨X,5,none⟩ (.int .i64 t.q.v.k)) (.loc X #[.int .i64 t.q.no,.int .i64 t.q.at',.string t.q.src,.slice t.A t.n t.c,.slice t.B t.m t.d,.int .i64 t.q.v.k,v6,v7] T::cs):=h4.set 0 5 (.int .i64 t.q.v.k) rfl
 have h6:Mem w0 (((((((w.setCell ⟨X,0,none⟩ (.int .i64 t.q.no)).setCell ⟨X,1,none⟩ (.int .i64 t.q.at')).setCell ⟨X,2,none⟩ (.string t.q.src)).setCell ⟨X,3,none⟩ (.slice t.A t.n t.c)).setCell ⟨X,4,none⟩ (.slice t.B t.m t.d)).setCell ⟨X,5,none⟩ (.int .i64 t.q.v.k)).setCell ⟨X,6,none⟩ (.string t.q.v.t)) (.loc X #[.int .i64 t.q.no,.int .i64 t.q.at',.string t.q.src,.slice t.A t.n t.c,.slice t.B t.m t.d,.int .i64 t.q.v.k,.string t.q.v.t,v7] T::cs):=h5.set 0 6 (.string t.q.v.t) rfl;have h7:Mem w0 ((((((((w.setCell ⟨X,0,none⟩ (.int .i64 t.q.no)).setCell ⟨X,1,none⟩ (.int .i64 t.q.at')).setCell ⟨X,2,none⟩ (.string t.q.src)).setCell ⟨X,3,none⟩ (.slice t.A t.n t.c)).setCell ⟨X,4,none⟩ (.slice t.B t.m t.d)).setCell ⟨X,5,none⟩ (.int .i64 t.q.v.k)).setCell ⟨X,6,none⟩ (.string t.q.v.t)).setCell ⟨X,7,none⟩ (.int .i64 t.q.v.n)) (.loc X #[.int .i64 t.q.no,.int .i64 t.q.at',.string t.q.src,.slice t.A t.n t.c,.slice t.B t.m t.d,.int .i64 t.q.v.k,.string t.q.v.t,.int .i64 t.q.v.n] T::cs):=h6.set 0 7 (.int .i64 t.q.v.n) rfl;exact h7
theorem Yj (a b:aj)(w:World) :
  Calls Tryz.prog 258 #[.agg (aG a),.agg (aG b)] w fun e w'=>e=.returned (.int .i64 (ou a.q b.q))∧Below w.heap.size w w':=by
 obtain ⟨R,HR⟩:∃ R,Hid (ou a.q b.q=R):=⟨_,Z9 rfl⟩;rw [HR.out];have hC:=Yh w a b 266;have Hb:Hid (Below w.heap.size w ((w.alloc (.cells (aG a) 266)).alloc (.cells (aG b) 266))):=((ZX _ _).alloc (Z5 _) _).alloc (by simp) _;go_enter Tryz.func258,Tryz.ntmps258
 go_wp2_with fail
 generalize (w.alloc (.cells (aG a) 266)).alloc (.cells (aG b) 266)=w1 at *;obtain ⟨Y,hY⟩:∃ Y,Y=w.heap.size + 1:=⟨_,rfl⟩;obtain ⟨X,hX⟩:∃ X,X=w.heap.size:=⟨_,rfl⟩;rw [← hY,← hX] at hC;rw [← hY,← hX];clear hY hX;refine dF (Dk X Y a b 266) [(true,0),(true,1),(true,2),(true,3),(true,4),(true,5),(true,7),(true,8),(true,9),(true,10),(true,11),(true,12),(false,6),(false,13),(false,14),(false,15),(true,16)] (by kernel_rfl) (by kernel_rfl) (fun w' hd=>hC.keep (hd.below _)) (fun KK aF wd aW=>?_);have oD:=hC.keep (aW.below _);have Hb1:Hid (Below w.heap.size w wd):=Hb.out.trans ((aW.below _).mono Hb.out.size);clear hC Hb aW;refine aA ?_;refine iI (.int .i64 a.q.at') rfl rfl rfl rfl (fun _=>rfl) (fun w' h=>h.1.cell 1 _ rfl) ?_;refine aA ?_;refine iI (.int .i64 b.q.at') rfl rfl rfl rfl (fun _=>rfl) (fun w' h=>h.2.cell 1 _ rfl) ?_;refine aA ?_;refine iI (.int .i64 a.q.no) rfl rfl rfl rfl (fun _=>rfl) (fun w' h=>h.1.cell 0 _ rfl) ?_;refine aA ?_;refine iI (.int .i64 b.q.no) rfl rfl rfl rfl (fun _=>rfl) (fun w' h=>h.2.cell 0 _ rfl) ?_;refine aV rfl (fun K hK=>?_) oD;go_wp2_with fail
 refine (Je a.q.at' b.q.at' _).mono ?_;rintro e _ ⟨rfl,rfl⟩;go_wp2_with fail
 refine ⟨oD,?_⟩;refine aV rfl (fun K hK=>?_) oD;go_wp2_with fail
 refine (Je a.q.no b.q.no _).mono ?_;rintro e _ ⟨rfl,rfl⟩;go_wp2_with fail
 refine ⟨oD,?_⟩;unfold ou at HR;generalize ZL a.q.at' b.q.at'=p at *;generalize ZL a.q.no b.q.no=q at *;refine aV rfl (fun K hK=>?_) oD;go_wp2_with fail
 have hb2:Below wd.heap.size wd (wd.alloc (.cells #[.int .i64 p,.int .i64 q] 3)):=(ZX _ _).alloc (Z5 _) _;have hC2:=oD.keep hb2;have Hb2:Hid (Below w.heap.size w (wd.alloc (.cells #[.int .i64 p,.int .i64 q] 3))):=Hb1.out.alloc Hb1.out.size _;have pK:=LV.new wd wd.heap.size #[.int .i64 p,.int .i64 q] 3 rfl;refine ⟨hC2,?_⟩;have Ho:=Z9 (MX wd.heap.size p q _ (pK.cell 0 _ rfl) (pK.cell 1 _ rfl));rw [HR.out] at Ho;clear hb2 oD Hb1 pK;refine aV rfl (fun K hK=>?_) hC2;go_wp2_with fail
 refine (Ho.out).mono ?_;rintro e _ ⟨rfl,rfl⟩;go_wp2_with fail
 refine ⟨hC2,?_⟩;refine aA ?_;refine dG ?_;simp only [Exit.then];refine aF _ _ ?_;go_wp2_with fail
 go_ret;exact ⟨rfl,Hb2.out⟩
end
section
open Go Go.RowKit
def pick (p:Tc→Tc→Bool)(m:Tc):List Tc→Tc
 | []=>m
 | x::r=>pick p (if p x m then x else m) r
def dS (p:Tc→Tc→Bool)(m:aj):List aj→aj
 | []=>m
 | x::r=>dS p (if p x.q m.q then x else m) r
theorem xX (p:Tc→Tc→Bool):∀ (l:List aj) (m:aj),(dS p m l).q=pick p m.q (l.map aj.q)
 | [],m=>rfl
 | x::r,m=>by
  rw [dS,xX p r,Zt,pick];congr 1
  split <;> rfl
theorem PW {p:Tc→Tc→Bool}{xs:List aj}{j:Nat}{x m:aj}(h:xs[j]? =some x):dS p m (xs.drop j)=dS p (if p x.q m.q then x else m) (xs.drop (j + 1)):=by rw [yB h,dS]
theorem Yk {N:Nat→Prop}{w:World}{A:Option Addr}{xs:List aj}(h:Sl bU N w A xs)(k:Nat)(s:aj)(hk:xs[k]? =some s):∃ blk off,A=some ⟨blk,off,none⟩∧∀ w',Below w.heap.size w w'→(Instr.loadAt 266 (.pointer (some ⟨blk,off + k * 8,none⟩))).run Tryz.prog w'=.ok (.agg (aG s)) w':=by
 obtain ⟨blk,off,e,hblk,d0,d1,d2,d3,d4,d5,d6,d7⟩:=h.wK k s hk;refine ⟨blk,off,e,fun w' h=>?_⟩;have e0:=(h.cell (p:=⟨blk,off + k * 8,none⟩) hblk).trans d0;have e1:=(h.cell (p:=⟨blk,off + k * 8 + 1,none⟩) hblk).trans d1;have e2:=(h.cell (p:=⟨blk,off + k * 8 + 2,none⟩) hblk).trans d2;have e3:=(h.cell (p:=⟨blk,off + k * 8 + 3,none⟩) hblk).trans d3;have e4:=(h.cell (p:=⟨blk,off + k * 8 + 4,none⟩) hblk).trans d4;have e5:=(h.cell (p:=⟨blk,off + k * 8 + 5,none⟩) hblk).trans d5;have e6:=(h.cell (p:=⟨blk,off + k * 8 + 6,none⟩) hblk).trans d6;have e7:=(h.cell (p:=⟨blk,off + k * 8 + 7,none⟩) hblk).trans d7;clear d0 d1 d2 d3 d4 d5 d6 d7;go_simp
abbrev jd:Array Value:=#[.int .i64 0,.int .i64 0,.string ⟨#[]⟩,.slice none 0 0,.slice none 0 0,.int .i64 0,.string ⟨#[]⟩,.int .i64 0]
def FI (w:World)(f:Nat)(caps:Array Value)(xs:List aj)(cf:Tc→Tc→Int):Prop:=∀ (w':World) (a b:aj),a∈xs→b∈xs→Below w.heap.size w w' →
 Calls Tryz.prog f (#[.agg (aG a),.agg (aG b)]++caps) w' fun e w''=>e=.returned (.int .i64 (cf a.q b.q))∧Below w'.heap.size w' w''
theorem Yl (f:Nat)(caps:Array Value)(cf:Tc→Tc→Int)(ef:∀ args w,(callFunc f args).run Tryz.prog w=.ok (.enter f args) w)(N:Nat→Prop)(A:Option Addr)(x0:aj)(r0:List aj)(n c:Nat)(w:World)(hS:Sl bU N w A (x0::r0))(hn:n=(x0::r0).length)(hl:(x0::r0).length≤1000000)(hf:FI w f caps (x0::r0) cf) :
  Calls Tryz.prog 270 #[.slice A n c,.func (.func f) #[] caps] w fun e w'=>e=.returned (.agg (aG (dS (fun x m=>decide (0 < cf x m)) x0 r0)))∧Below w.heap.size w w':=by
 obtain ⟨xs,hxs⟩:∃ xs,x0::r0=xs:=⟨_,rfl⟩;have hx0:xs[0]? =some x0:=by rw [← hxs];rfl
 have hr0:dS (fun x m=>decide (0 < cf x m)) x0 (xs.drop 1)=dS (fun x m=>decide (0 < cf x m)) x0 r0:=by rw [← hxs];rfl
 obtain ⟨p,Dl⟩:∃ p:Tc→Tc→Bool,(fun x m=>decide (0 < cf x m))=p:=⟨_,rfl⟩;rw [Dl] at hr0 ⊢;have QS:=Z9 Dl;clear Dl;obtain ⟨R,hR⟩:∃ R,dS p x0 r0=R:=⟨_,rfl⟩;rw [hR] at hr0 ⊢;have hlt0:0 < xs.length:=bM hx0;rw [hxs] at hS hn hl hf;have Ae:=Z9 hr0;unfold FI at hf;have HF:=Z9 hf;have HS:=Z9 (fun k s hk=>Yk hS k s hk);have HSc:=Z9 (fun w' (h:Below w.heap.size w w')=>hS.aK h);have oI:=Z9 hx0;obtain ⟨Z,hZ⟩:∃ Z,Z=w.heap.size:=⟨_,rfl⟩;have T0:Mem w (w.alloc (.cells jd 266)) [.loc Z jd 266]:=(Mem.start w).newAt jd 266 Z hZ;subst hn;clear hr0 hR hxs hf hS hx0;go_enter Tryz.func270,Tryz.ntmps270
 go_upto_region 1 with fail
 rw [← hZ];clear hZ;generalize w.alloc (.cells jd 266)=w1 at *;obtain ⟨bt,ot,rfl,hbt,d0,d1,d2,d3,d4,d5,d6,d7⟩:=(HSc.out w1 T0.b).wK 0 x0 oI.out;rw [Nat.zero_mul,Nat.add_zero] at d0 d1 d2 d3 d4 d5 d6 d7;go_upto_region 4 with fail
 clear d0 d1 d2 d3 d4 d5 d6 d7 hbt;obtain ⟨M,hM⟩:∃ M,M=w1.heap.size:=⟨_,rfl⟩;have T1:Mem w (w1.alloc (.cells (aG x0) 266)) [.loc M (aG x0) 266,.loc Z jd 266]:=(T0.newAt (aG x0) 266 M hM).front;rw [← hM];clear hM T0;generalize w1.alloc (.cells (aG x0) 266)=w2 at *;have zy:Hid (x0∈xs):=Z7 oI.out;go_wp2_with fail
 go_loopw [6] (fun i wr=>∃ (k:Nat) (m:aj),i=.int .i64 k∧1≤k∧k≤xs.length∧Hid (m∈xs)∧Hid (dS p m (xs.drop k)=R)∧Mem w wr [.loc M (aG m) 266,.loc Z jd 266]) (fun i _=>xs.length - (intOf i).toNat)
 case atStart=>exact ⟨1,x0,rfl,Z5 _,hlt0,zy,Ae,T1⟩
 case round =>
  clear T1 Ae zy oI;obtain ⟨k,m,rfl,hk1,hk,Hm,Hp,T⟩:=hrel;by_cases hlt:k < xs.length
  ·obtain ⟨x,hx⟩:∃ x,xs[k]? =some x:=⟨_,Z8 hlt⟩;obtain ⟨bt',ot',e9,hld⟩:=HS.out k x hx;simp only [Option.some.injEq,Addr.mk.injEq,and_true] at e9;obtain ⟨rfl,rfl⟩:=e9;have Hld:=Z9 hld;have dY:=Z9 (PW (p:=p) (m:=m) hx);have Hx:=Z9 (Z7 hx);have Hxk:=Z9 hx;clear hx hld;go_upto_region 7 with fail
   go_wp2_with fail
   refine dF (fun w'=>Below w.heap.size w w'∧LV w' M (aG m) 266) [(true,0),(true,1),(true,2),(true,3),(true,4),(true,5),(false,6),(true,7)] (by kernel_rfl) (by kernel_rfl) (fun w' hd=>⟨(T.below (hd.below _)).b,(T.below (hd.below _)).lv 0 rfl⟩) (fun KK aF wd hd=>?_);have T2:=T.below (hd.below _);clear hd T;refine aA ?_;refine jq (.agg (aG x)) rfl rfl rfl rfl (fun w' h=>Hld.out w' h.1) ?_;refine jq (.agg (aG m)) rfl rfl rfl rfl (fun w' h=>FH h.2) ?_;refine aV rfl (fun K hK=>?_) ⟨T2.b,T2.lv 0 rfl⟩;have Ho:=Z9 (HF.out wd x m Hx.out Hm.out T2.b);obtain ⟨cv,hcv⟩:∃ cv,cf x.q m.q=cv:=⟨_,rfl⟩;have mY:=Z9 hcv;rw [hcv] at Ho;clear hcv;go_wp2_with fail
   refine (Ho.out).mono ?_;rintro e w5 ⟨rfl,hl5⟩;have T3:=T2.below hl5;have dB:Below w.heap.size w w5∧LV w5 M (aG m) 266:=⟨T3.b,T3.lv 0 rfl⟩;clear Ho hl5 T2;go_wp2_with fail
   refine ⟨dB,?_⟩;clear dB;refine aA ?_;refine dG ?_;simp only [Exit.then];refine aF _ _ ?_;have iM:Hid (p x.q m.q=decide (0 < cv)):=by
    show _=_;rw [← QS.out,← mY.out]
   by_cases hc:0 < cv
   ·have iU:Hid (dS p x (xs.drop (k + 1))=R):=by
     have h:=dY.out;rw [if_pos (iM.out.trans (decide_eq_true hc)),Hp.out] at h;exact h.symm
    obtain ⟨_,_,e9,hbt,d0,d1,d2,d3,d4,d5,d6,d7⟩:=(HSc.out w5 T3.b).wK k x Hxk.out;simp only [Option.some.injEq,Addr.mk.injEq,and_true] at e9;obtain ⟨rfl,rfl⟩:=e9;have l1:=(T3.lv 0 rfl).all;have T4:=T3.zB x;clear T3 dY Hp;go_wp2_with fail
    go_roundw
    case rel=>exact ⟨k + 1,x,by go_num,by omega,by omega,Hx,iU,T4⟩
    case measure=>simp [intOf];omega
   ·have iU:Hid (dS p m (xs.drop (k + 1))=R):=by
     have h:=dY.out;rw [if_neg (by rw [iM.out];simpa using hc),Hp.out] at h;exact h.symm
    clear dY Hp;go_wp2_with fail
    go_roundw
    case rel=>exact ⟨k + 1,m,by go_num,by omega,by omega,Hm,iU,T3⟩
    case measure=>simp [intOf];omega
  ·obtain rfl:k=xs.length:=by omega
   have gV:Hid (m=R):=by
    have h:=Hp.out;rw [List.drop_length] at h;exact h
   have l1:=(T.lv 1 rfl).all;have l0:=(T.lv 0 rfl).all;have T4:=T.swap.zB m;clear T;go_wp2_with fail
   exact bodyPost_ret (fK rfl rfl (Yi (T4.lv 0 rfl))) rfl ⟨by rw [gV.out],T4.b⟩
theorem afq (f:Nat)(caps:Array Value)(cf:Tc→Tc→Int)(ef:∀ args w,(callFunc f args).run Tryz.prog w=.ok (.enter f args) w)(N:Nat→Prop)(A:Option Addr)(x0:aj)(r0:List aj)(n c:Nat)(w:World)(hS:Sl bU N w A (x0::r0))(hn:n=(x0::r0).length)(hl:(x0::r0).length≤1000000)(hf:FI w f caps (x0::r0) cf) :
  Calls Tryz.prog 257 #[.slice A n c,.func (.func f) #[] caps] w fun e w'=>e=.returned (.agg (aG (dS (fun x m=>decide (cf x m < 0)) x0 r0)))∧Below w.heap.size w w':=by
 obtain ⟨xs,hxs⟩:∃ xs,x0::r0=xs:=⟨_,rfl⟩;have hx0:xs[0]? =some x0:=by rw [← hxs];rfl
 have hr0:dS (fun x m=>decide (cf x m < 0)) x0 (xs.drop 1)=dS (fun x m=>decide (cf x m < 0)) x0 r0:=by rw [← hxs];rfl
 obtain ⟨p,Dl⟩:∃ p:Tc→Tc→Bool,(fun x m=>decide (cf x m < 0))=p:=⟨_,rfl⟩;rw [Dl] at hr0 ⊢;have QS:=Z9 Dl;clear Dl;obtain ⟨R,hR⟩:∃ R,dS p x0 r0=R:=⟨_,rfl⟩;rw [hR] at hr0 ⊢;have hlt0:0 < xs.length:=bM hx0;rw [hxs] at hS hn hl hf;have Ae:=Z9 hr0;unfold FI at hf;have HF:=Z9 hf;have HS:=Z9 (fun k s hk=>Yk hS k s hk);have HSc:=Z9 (fun w' (h:Below w.heap.size w w')=>hS.aK h);have oI:=Z9 hx0;obtain ⟨Z,hZ⟩:∃ Z,Z=w.heap.size:=⟨_,rfl⟩;have T0:Mem w (w.alloc (.cells jd 266)) [.loc Z jd 266]:=(Mem.start w).newAt jd 266 Z hZ;subst hn;clear hr0 hR hxs hf hS hx0;go_enter Tryz.func257,Tryz.ntmps257
 go_upto_region 1 with fail
 rw [← hZ];clear hZ;generalize w.alloc (.cells jd 266)=w1 at *;obtain ⟨bt,ot,rfl,hbt,d0,d1,d2,d3,d4,d5,d6,d7⟩:=(HSc.out w1 T0.b).wK 0 x0 oI.out;rw [Nat.zero_mul,Nat.add_zero] at d0 d1 d2 d3 d4 d5 d6 d7;go_upto_region 4 with fail
 clear d0 d1 d2 d3 d4 d5 d6 d7 hbt;obtain ⟨M,hM⟩:∃ M,M=w1.heap.size:=⟨_,rfl⟩;have T1:Mem w (w1.alloc (.cells (aG x0) 266)) [.loc M (aG x0) 266,.loc Z jd 266]:=(T0.newAt (aG x0) 266 M hM).front;rw [← hM];clear hM T0;generalize w1.alloc (.cells (aG x0) 266)=w2 at *;have zy:Hid (x0∈xs):=Z7 oI.out;go_wp2_with fail
 go_loopw [6] (fun i wr=>∃ (k:Nat) (m:aj),i=.int .i64 k∧1≤k∧k≤xs.length∧Hid (m∈xs)∧Hid (dS p m (xs.drop k)=R)∧Mem w wr [.loc M (aG m) 266,.loc Z jd 266]) (fun i _=>xs.length - (intOf i).toNat)
 case atStart=>exact ⟨1,x0,rfl,Z5 _,hlt0,zy,Ae,T1⟩
 case round =>
  clear T1 Ae zy oI;obtain ⟨k,m,rfl,hk1,hk,Hm,Hp,T⟩:=hrel;by_cases hlt:k < xs.length
  ·obtain ⟨x,hx⟩:∃ x,xs[k]? =some x:=⟨_,Z8 hlt⟩;obtain ⟨bt',ot',e9,hld⟩:=HS.out k x hx;simp only [Option.some.injEq,Addr.mk.injEq,and_true] at e9;obtain ⟨rfl,rfl⟩:=e9;have Hld:=Z9 hld;have dY:=Z9 (PW (p:=p) (m:=m) hx);have Hx:=Z9 (Z7 hx);have Hxk:=Z9 hx;clear hx hld;go_upto_region 7 with fail
   go_wp2_with fail
   refine dF (fun w'=>Below w.heap.size w w'∧LV w' M (aG m) 266) [(true,0),(true,1),(true,2),(true,3),(true,4),(true,5),(false,6),(true,7)] (by kernel_rfl) (by kernel_rfl) (fun w' hd=>⟨(T.below (hd.below _)).b,(T.below (hd.below _)).lv 0 rfl⟩) (fun KK aF wd hd=>?_);have T2:=T.below (hd.below _);clear hd T;refine aA ?_;refine jq (.agg (aG x)) rfl rfl rfl rfl (fun w' h=>Hld.out w' h.1) ?_;refine jq (.agg (aG m)) rfl rfl rfl rfl (fun w' h=>FH h.2) ?_;refine aV rfl (fun K hK=>?_) ⟨T2.b,T2.lv 0 rfl⟩;have Ho:=Z9 (HF.out wd x m Hx.out Hm.out T2.b);obtain ⟨cv,hcv⟩:∃ cv,cf x.q m.q=cv:=⟨_,rfl⟩;have mY:=Z9 hcv;rw [hcv] at Ho;clear hcv;go_wp2_with fail
   refine (Ho.out).mono ?_;rintro e w5 ⟨rfl,hl5⟩;have T3:=T2.below hl5;have dB:Below w.heap.size w w5∧LV w5 M (aG m) 266:=⟨T3.b,T3.lv 0 rfl⟩;clear Ho hl5 T2;go_wp2_with fail
   refine ⟨dB,?_⟩;clear dB;refine aA ?_;refine dG ?_;simp only [Exit.then];refine aF _ _ ?_;have iM:Hid (p x.q m.q=decide (cv < 0)):=by
    show _=_;rw [← QS.out,← mY.out]
   by_cases hc:cv < 0
   ·have iU:Hid (dS p x (xs.drop (k + 1))=R):=by
     have h:=dY.out;rw [if_pos (iM.out.trans (decide_eq_true hc)),Hp.out] at h;exact h.symm
    obtain ⟨_,_,e9,hbt,d0,d1,d2,d3,d4,d5,d6,d7⟩:=(HSc.out w5 T3.b).wK k x Hxk.out;simp only [Option.some.injEq,Addr.mk.injEq,and_true] at e9;obtain ⟨rfl,rfl⟩:=e9;have l1:=(T3.lv 0 rfl).all;have T4:=T3.zB x;clear T3 dY Hp;go_wp2_with fail
    go_roundw
    case rel=>exact ⟨k + 1,x,by go_num,by omega,by omega,Hx,iU,T4⟩
    case measure=>simp [intOf];omega
   ·have iU:Hid (dS p m (xs.drop (k + 1))=R):=by
     have h:=dY.out;rw [if_neg (by rw [iM.out];simpa using hc),Hp.out] at h;exact h.symm
    clear dY Hp;go_wp2_with fail
    go_roundw
    case rel=>exact ⟨k + 1,m,by go_num,by omega,by omega,Hm,iU,T3⟩
    case measure=>simp [intOf];omega
  ·obtain rfl:k=xs.length:=by omega
   have gV:Hid (m=R):=by
    have h:=Hp.out;rw [List.drop_length] at h;exact h
   have l1:=(T.lv 1 rfl).all;have l0:=(T.lv 0 rfl).all;have T4:=T.swap.zB m;clear T;go_wp2_with fail
   exact bodyPost_ret (fK rfl rfl (Yi (T4.lv 0 rfl))) rfl ⟨by rw [gV.out],T4.b⟩
end
section
open Go Go.RowKit
def QT (w:World)(f:Nat)(caps:Array Value)(xs:List aj)(ms:Tc→Int):Prop:=∀ (w':World) (a:aj),a∈xs→Below w.heap.size w w' →
 Calls Tryz.prog f (#[.agg (aG a)]++caps) w' fun e w''=>e=.returned (.int .i64 (ms a.q))∧Below w'.heap.size w' w''
def qj (ms:Tc→Int)(a b:Tc):Int:=if ZL (ms a) (ms b)≠0 then ZL (ms a) (ms b) else ou a b
theorem Jf (a b k n:Int)(s t:ByteArray)(u v:Value)(hu:∃ A n c,u=.slice A n c)(hv:∃ A n c,v=.slice A n c)(w:World):(Instr.field 266 (.agg #[.int .i64 a,.int .i64 b,.string s,u,v,.int .i64 k,.string t,.int .i64 n]) 1).run Tryz.prog w=.ok (.agg #[.int .i64 k,.string t,.int .i64 n]) w:=by
 obtain ⟨A,n1,c,rfl⟩:=hu;obtain ⟨B,m,d,rfl⟩:=hv;have u48:=Tryz.underlying266;have a4:=Tryz.isAgg174;simp only [Instr.field,run_underlying u48,Sem.run_bind,Result.andThen_ok];go_simp;first | rfl | simp [asAgg]
theorem tN {w:World}{X:Nat}{a b c:Value}(h:LV w X #[a,b,c] 174):(loadVar 174 ⟨X,0,none⟩).run Tryz.prog w=.ok (.agg #[a,b,c]) w:=by
 have c0:=h.all;go_simp
theorem afr (f U:Nat)(caps:Array Value)(ms:Tc→Int)(ef:∀ args w,(callFunc f args).run Tryz.prog w=.ok (.enter f args) w)(xs:List aj)(a b:aj)(w:World)(ha:a∈xs)(hb:b∈xs)(hf:QT w f caps xs ms)(hU:LV w U #[.func (.func f) #[] caps] 314) :
  Calls Tryz.prog 309 #[.agg (aG a),.agg (aG b),.pointer (some ⟨U,0,none⟩)] w fun e w'=>e=.returned (.int .i64 (qj ms a.q b.q))∧Below w.heap.size w w':=by
 obtain ⟨R,HR⟩:∃ R,Hid (qj ms a.q b.q=R):=⟨_,Z9 rfl⟩;rw [HR.out];unfold qj at HR;have hC:=Yh w a b 266;have Hb:Hid (Below w.heap.size w ((w.alloc (.cells (aG a) 266)).alloc (.cells (aG b) 266))):=((ZX _ _).alloc (Z5 _) _).alloc (by simp) _;have QU:LV ((w.alloc (.cells (aG a) 266)).alloc (.cells (aG b) 266)) U #[.func (.func f) #[] caps] 314:=LV.dQ hU Hb.out hU.lt;unfold QT at hf;have HF:=Z9 hf;have Ha:=Z9 ha;have HB:=Z9 hb;clear hf ha hb hU;go_enter Tryz.func309,Tryz.ntmps309
 go_wp2_with fail
 generalize (w.alloc (.cells (aG a) 266)).alloc (.cells (aG b) 266)=w1 at *;obtain ⟨Y,hY⟩:∃ Y,Y=w.heap.size + 1:=⟨_,rfl⟩;obtain ⟨X,hX⟩:∃ X,X=w.heap.size:=⟨_,rfl⟩;rw [← hY,← hX] at hC;rw [← hY,← hX];clear hY hX;have hk:∀ w',Below w1.heap.size w1 w'→Dk X Y a b 266 w'∧LV w' U #[.func (.func f) #[] caps] 314:=fun w' h=>⟨hC.keep h,LV.dQ QU h QU.lt⟩;have Hk:=Z9 hk;refine dF (fun w'=>Dk X Y a b 266 w'∧LV w' U #[.func (.func f) #[] caps] 314) [(true,0),(true,1),(true,3),(true,4),(true,7),(true,8),(false,2),(false,5),(false,6),(false,9),(false,10),(false,11),(true,12)] (by kernel_rfl) (by kernel_rfl) (fun w' hd=>Hk.out w' (hd.below _)) (fun KK aF wd aW=>?_);have hb1:Below w1.heap.size w1 wd:=aW.below _;clear aW hC QU hk;refine aA ?_;refine jq (.func (.func f) #[] caps) rfl rfl rfl rfl (fun w' h=>eX rfl (h.2.cell 0 _ rfl)) ?_;refine jq (.agg (aG a)) rfl rfl rfl rfl (fun w' h=>FH h.1.1) ?_;refine jq (.func (.func f) #[] caps) rfl rfl rfl rfl (fun w' h=>eX rfl (h.2.cell 0 _ rfl)) ?_;refine jq (.agg (aG b)) rfl rfl rfl rfl (fun w' h=>FH h.1.2) ?_;refine jq (.agg (aG a)) rfl rfl rfl rfl (fun w' h=>FH h.1.1) ?_;refine jq (.agg (aG b)) rfl rfl rfl rfl (fun w' h=>FH h.1.2) ?_;obtain ⟨ma,hma⟩:∃ ma,ms a.q=ma:=⟨_,rfl⟩;obtain ⟨mb,hmb⟩:∃ mb,ms b.q=mb:=⟨_,rfl⟩;rw [hma,hmb] at HR;have H1:=Z9 (HF.out wd a Ha.out (Hb.out.trans (hb1.mono Hb.out.size)));rw [hma] at H1;refine aV rfl (fun K hK=>?_) (Hk.out _ hb1);go_wp2_with fail
 refine (H1.out).mono ?_;rintro e w2 ⟨rfl,hl2⟩;have hb2:=hb1.trans (hl2.mono hb1.size);have hC2:=Hk.out _ hb2;clear hl2 H1;go_wp2_with fail
 refine ⟨hC2,?_⟩;clear hC2;have H2:=Z9 (HF.out w2 b HB.out (Hb.out.trans (hb2.mono Hb.out.size)));rw [hmb] at H2;refine aV rfl (fun K hK=>?_) (Hk.out _ hb2);go_wp2_with fail
 refine (H2.out).mono ?_;rintro e w3 ⟨rfl,hl3⟩;have hb3:=hb2.trans (hl3.mono hb2.size);have dB:=Hk.out _ hb3;clear hl3 H2;go_wp2_with fail
 refine ⟨dB,?_⟩;clear dB;refine aV rfl (fun K hK=>?_) (Hk.out _ hb3);have dB:=Hk.out _ hb3;go_wp2_with fail
 refine (Je ma mb _).mono ?_;rintro e _ ⟨rfl,rfl⟩;go_wp2_with fail
 refine ⟨dB,?_⟩;clear dB;generalize ZL ma mb=p at *;have H3:=Z9 (Yj a b w3);generalize ou a.q b.q=q at *;refine aV rfl (fun K hK=>?_) (Hk.out _ hb3);go_wp2_with fail
 refine (H3.out).mono ?_;rintro e w4 ⟨rfl,hl4⟩;have hb4:=hb3.trans (hl4.mono hb3.size);have Ie:=Hk.out _ hb4;clear hl4 H3;go_wp2_with fail
 refine ⟨Ie,?_⟩;clear Ie;refine aV rfl (fun K hK=>?_) (Hk.out _ hb4);have hb5:Below w1.heap.size w1 (w4.alloc (.cells #[.int .i64 p,.int .i64 q] 3)):=hb4.alloc hb4.size _;have QV:=Hk.out _ hb5;have pK:=LV.new w4 w4.heap.size #[.int .i64 p,.int .i64 q] 3 rfl;go_wp2_with fail
 refine ⟨QV,?_⟩;have Ho:=Z9 (MX w4.heap.size p q _ (pK.cell 0 _ rfl) (pK.cell 1 _ rfl));rw [HR.out] at Ho;have Hb5:=Z9 (Hb.out.trans (hb5.mono Hb.out.size));clear pK;refine aV rfl (fun K hK=>?_) QV;go_wp2_with fail
 refine (Ho.out).mono ?_;rintro e _ ⟨rfl,rfl⟩;go_wp2_with fail
 refine ⟨QV,?_⟩;refine aA ?_;refine dG ?_;simp only [Exit.then];refine aF _ _ ?_;go_wp2_with fail
 go_ret;exact ⟨rfl,Hb5.out⟩
theorem MZ (f:Nat)(caps:Array Value)(ms:Tc→Int)(ef:∀ args w,(callFunc f args).run Tryz.prog w=.ok (.enter f args) w)(N:Nat→Prop)(A:Option Addr)(x0:aj)(r0:List aj)(n c:Nat)(w:World)(hS:Sl bU N w A (x0::r0))(hn:n=(x0::r0).length)(hl:(x0::r0).length≤1000000)(hf:QT w f caps (x0::r0) ms) :
  Calls Tryz.prog 259 #[.slice A n c,.func (.func f) #[] caps] w fun e w'=>e=.returned (.agg #[.int .i64 (dS (fun x m=>decide (0 < qj ms x m)) x0 r0).q.v.k,.string (dS (fun x m=>decide (0 < qj ms x m)) x0 r0).q.v.t,.int .i64 (dS (fun x m=>decide (0 < qj ms x m)) x0 r0).q.v.n])∧Below w.heap.size w w':=by
 obtain ⟨g,hg⟩:∃ g,dS (fun x m=>decide (0 < qj ms x m)) x0 r0=g:=⟨_,rfl⟩;rw [hg];have Hg:=Z9 hg;clear hg;obtain ⟨U,hU⟩:∃ U,U=w.heap.size:=⟨_,rfl⟩;have T0:Mem w (w.alloc (.cells #[.func (.func f) #[] caps] 314)) [.loc U #[.func (.func f) #[] caps] 314]:=(Mem.start w).newAt _ 314 U hU;have T:Mem w ((w.alloc (.cells #[.func (.func f) #[] caps] 314)).alloc (.cells #[.int .i64 0,.string ⟨#[]⟩,.int .i64 0] 174)) [.loc U #[.func (.func f) #[] caps] 314,.loc (U + 1) #[.int .i64 0,.string ⟨#[]⟩,.int .i64 0] 174]:=T0.newAt #[.int .i64 0,.string ⟨#[]⟩,.int .i64 0] 174 (U + 1) (by rw [hU,World.size_alloc]);have HS:=Z9 (fun w' (h:Below w.heap.size w w')=>hS.aK h);have Hf:=Z9 hf;have Hn:=Z9 hn;have Hl:=Z9 hl;clear hS hf T0 hn hl;go_enter Tryz.func259,Tryz.ntmps259
 go_upto_region 1 with fail
 rw [← hU];clear hU;generalize (w.alloc (.cells #[.func (.func f) #[] caps] 314)).alloc (.cells #[.int .i64 0,.string ⟨#[]⟩,.int .i64 0] 174)=w1 at *;obtain ⟨Z,hZ⟩:∃ Z,Z=U + 1:=⟨_,rfl⟩;rw [← hZ] at T ⊢;clear hZ;have MP:Hid (FI w1 309 #[.pointer (some ⟨U,0,none⟩)] (x0::r0) (qj ms)):=fun w' a b ha hb h =>
  afr f U caps ms ef (x0::r0) a b w' ha hb (fun w'' y hy h2=>Hf.out w'' y hy (T.b.trans ((h.mono (Z5 _)).trans (h2.mono h.size) |>.mono T.b.size))) (LV.dQ (T.lv 0 rfl) h (T.lv 0 rfl).lt)
 have Hm:=Z9 (Yl 309 #[.pointer (some ⟨U,0,none⟩)] (qj ms) (enters_of Tryz.func309 (by kernel_rfl) rfl) N A x0 r0 n c w1 (HS.out w1 T.b) Hn.out Hl.out MP.out);rw [Hg.out] at Hm;clear MP;go_wp2_with fail
 refine (Hm.out).mono ?_;rintro e w2 ⟨rfl,hl2⟩;have T2:=T.below hl2;have hfd:=Jf g.q.no g.q.at' g.q.v.k g.q.v.n g.q.src g.q.v.t (.slice g.A g.n g.c) (.slice g.B g.m g.d) ⟨_,_,_,rfl⟩ ⟨_,_,_,rfl⟩;have l1:=(T2.lv 1 rfl).all;have T3:Mem w _ [.loc U #[.func (.func f) #[] caps] 314,.loc Z #[.int .i64 g.q.v.k,.string g.q.v.t,.int .i64 g.q.v.n] 174]:=((T2.set 1 0 (.int .i64 g.q.v.k) rfl).set 1 1 (.string g.q.v.t) rfl).set 1 2 (.int .i64 g.q.v.n) rfl;clear T hl2 Hm T2;go_wp2_with fail
 exact bodyPost_ret (fK rfl rfl (tN (T3.lv 1 rfl))) rfl ⟨rfl,T3.b⟩
end
section
open Go Go.RowKit
theorem afs:∀ (f:Nat) (s:ByteArray),s.size≤f→(pts f s).length=Lib.runeCountFrom s f 0:=by
 intro f;induction f with
 | zero=>intro s h;rfl
 | succ f ih =>
  intro s h;rcases Nat.eq_zero_or_pos s.size with h0 | h0
  ·rw [Na _ _ h0,Lib.runeCountFrom_end _ _ _ (by omega)];rfl
  ·have hd:=Jg s h0;have hz:(s.extract (ZI s).2 s.size).size=s.size - (ZI s).2:=by rw [ByteArray.size_extract];omega
   rw [Jh _ _ h0,ZV,ih _ (by omega),Lib.tail_count,Lib.runeCountFrom,if_pos h0,Nat.add_comm,Zh,Nat.add_zero];unfold ZI;rw [if_neg (by omega)]
theorem adW (s:ByteArray):(pts s.size s).length=Lib.runeCount s:=afs s.size s (Z5 _)
theorem aft (s:ByteArray)(w:World)(hs:s.size≤1000000):Calls Tryz.prog 261 #[.string s] w fun e w'=>e=.returned (.int .i64 (Lib.runeCount s))∧Below w.heap.size w w':=by
 have h:=Any.utf8_RuneCountInString Tryz.lays195 s w (by omega);refine h.mono ?_;rintro e w' ⟨rfl,pos,rfl⟩;exact ⟨rfl,(ZX _ _).alloc (Z5 _) _⟩
end
section
open Go Go.RowKit Go.MapKept
abbrev uV (x:Vt):Value:=.agg #[.int .i64 x.k,.string x.t,.int .i64 x.n]
theorem afu (x y:Vt)(w:World):(Op.equal 174 (uV x) (uV y)).run Tryz.prog w=.ok (x.k==y.k && ((x.t.toList==y.t.toList) && (x.n==y.n))) w:=by
 have u1:=Tryz.underlying3;have u2:=Tryz.underlying9;have a1:=Tryz.isAgg3;have a2:=Tryz.isAgg9;show (Op.equalIn (9999 + 1) 174 (.agg #[.int .i64 x.k,.string x.t,.int .i64 x.n]) (.agg #[.int .i64 y.k,.string y.t,.int .i64 y.n])).run Tryz.prog w=_;rw [run_equalIn_agg w 9999 174 _ _ (by kernel_rfl) (by kernel_rfl)];simp only [Program.fieldsOf,Tryz.underlying174];go_simp;by_cases h1:x.k=y.k <;> by_cases h2:x.t.toList=y.t.toList <;> by_cases h3:x.n=y.n <;> simp [h1,h2,h3]
theorem afv (x y:Vt)(w:World):(Op.equal 174 (uV x) (uV y)).run Tryz.prog w=.ok (decide (x=y)) w:=by
 have e:(x.k==y.k && ((x.t.toList==y.t.toList) && (x.n==y.n)))=decide (x=y):=by
  rw [Y7,decide_eq_true_eq,ZQ,ZQ,beq_iff_eq,beq_iff_eq,beq_iff_eq];obtain ⟨k,t,n⟩:=x;obtain ⟨k2,t2,n2⟩:=y;constructor
  ·rintro ⟨rfl,h,rfl⟩;rw [ByteArray.toList_eq,ByteArray.toList_eq] at h;obtain rfl:t=t2:=by
    cases t;cases t2;simp only [ByteArray.mk.injEq];exact Array.toList_inj.1 h
   rfl
  ·intro h;injection h with h1 h2 h3
   exact ⟨h1,by rw [h2],h3⟩
 rw [← e];exact afu x y w
theorem afw (x:Vt)(b:Bool)(n:Nat)(w:World):(Instr.checkKey b (n + 2) 174 (uV x)).run Tryz.prog w=.ok () w:=by
 have u1:=Tryz.underlying3;have u2:=Tryz.underlying9;have u3:=Tryz.underlying174;have a1:=Tryz.isAgg3;have a2:=Tryz.isAgg9;simp only [Instr.checkKey,run_underlying u3,Sem.run_bind,Result.andThen_ok];simp [run_underlying u1,run_underlying u2];go_simp
theorem afx (x:Vt):Instr.sameBits 10000 (uV x) (uV x)=true:=by
 show (true && (Instr.sameBits 9999 (.int .i64 x.k) (.int .i64 x.k) && (Instr.sameBits 9999 (.string x.t) (.string x.t) && (Instr.sameBits 9999 (.int .i64 x.n) (.int .i64 x.n) && true))))=true;simp only [Instr.sameBits,beq_self_eq_true,Bool.true_and,Bool.and_true];show (x.t.data==x.t.data)=true;exact beq_self_eq_true _
theorem Ym (x:Vt):∀ (es:List MapEntry) (L:List Vt) (i:Nat) (w:World),es.map MapEntry.key=L.map uV→∃ r,(Instr.findAsking 174 (uV x) es i).run Tryz.prog w=.ok r w∧((x ∉ L∧r=none)∨∃ j e,es[j]? =some e∧L[j]? =some x∧r=some (i + j,e.val))
 | [],L,i,w,h=>by
  cases L with
  | nil=>exact ⟨none,by simp [Instr.findAsking],.inl ⟨by simp,rfl⟩⟩
  | cons p r=>simp at h
 | e::es,[],i,w,h=>by simp at h
 | e::es,p::r,i,w,h=>by
  simp only [Zt,List.cons.injEq] at h;obtain ⟨h1,h3⟩:=h;have hq:=afv x p w;by_cases hx:x=p
  ·refine ⟨some (i,e.val),?_,.inr ⟨0,e,rfl,by simp [hx],rfl⟩⟩;rw [decide_eq_true hx] at hq;simp [Instr.findAsking,h1,hq]
  ·rw [decide_eq_false hx] at hq;obtain ⟨r',hr,hc⟩:=Ym x es r (i + 1) w h3;refine ⟨r',by simp [Instr.findAsking,h1,hq,hr],?_⟩;rcases hc with ⟨h4,h5⟩ | ⟨j,e',h4,h5,h6⟩
   ·exact .inl ⟨by simp [hx,h4],h5⟩
   ·exact .inr ⟨j + 1,e',by simpa using h4,by simpa using h5,by rw [h6,show i + (j + 1)=i + 1 + j by omega]⟩
def rW:gu Vt where
 kv:=uV
 ty:=174
 chk b x w:=afw x b 9998 w
 same:=afx
 find x es L w h:=by
  have e:=run_findKey_eq (P:=Tryz.prog) (w:=w) (k:=174) (by kernel_rfl) (uV x) es;obtain ⟨r,hr,hc⟩:=Ym x es L 0 w h;refine ⟨r,by rw [e];exact hr,?_⟩;rcases hc with h1 | ⟨j,e',h4,h5,h6⟩
  ·exact .inl h1
  ·exact .inr ⟨j,e',h4,h5,by rw [h6,Zh]⟩
end
end Go.Proofs.YtmkkppknaikjjaaGreatDoor
