/- Several texts in one: Told, BestT, BestB, RuneN, KeyVt. -/
import Derived.Test.YtfdcgedcfafmcaaGreatDoorPackV
import Derived.Test.YtfdcgedcfafmcaaGreatDoorPackB
import Derived.Test.YtfdcgedcfafmcaaGreatDoorPackM
import Derived.Test.YtfdcgedcfafmcaaGreatDoorPackW
import Derived.Test.YtfdcgedcfafmcaaGreatDoorPackQ
import Derived.Test.YtfdcgedcfafmcaaGreatDoorPackU
import Derived.RegionTactic
import Derived.Deep.DeepCutAuto
import Derived.Shelf.Utf8.RuneCount
import Derived.Lib.RuneCountTail
import Derived.Test.YtfdcgedcfafmcaaGreatDoorPackP
import Derived.Test.YtfdcgedcfafmcaaGreatDoorPackR
import Derived.WideKeyRuns
/- Told values: rows of eight cells; when one is later than another. -/
namespace Go.Proofs.YtfdcgedcfafmcaaGreatDoor
section
open Go Go.RowKit
structure Vt where
 k:Int
 t:ByteArray
 n:Int
deriving DecidableEq
structure Tc where
 no:Int
 at':Int
 src:ByteArray
 v:Vt
structure Tld where
 q:Tc
 A:Option Addr
 n:Nat
 c:Nat
 B:Option Addr
 m:Nat
 d:Nat
def Tld.cells (t:Tld):List Value:=[.int .i64 t.q.no,.int .i64 t.q.at',.string t.q.src,.slice t.A t.n t.c,.slice t.B t.m t.d,.int .i64 t.q.v.k,.string t.q.v.t,.int .i64 t.q.v.n]
abbrev tlCs (t:Tld):Array Value:=#[.int .i64 t.q.no,.int .i64 t.q.at',.string t.q.src,.slice t.A t.n t.c,.slice t.B t.m t.d,.int .i64 t.q.v.k,.string t.q.v.t,.int .i64 t.q.v.n]
def rTld:Rep Tld:=.flat 8 Tld.cells (fun _=>rfl)
theorem flatTld:rTld.Flat Tld.cells:=fun _ _ _ _=>Iff.rfl
theorem oneTld (s:Tld):∀ u∈s.cells,u.oneCell'=true:=fun u hu=>by
 simp only [Tld.cells,List.mem_cons,List.not_mem_nil,or_false] at hu
 rcases hu with rfl | rfl | rfl | rfl | rfl | rfl | rfl | rfl <;> rfl
theorem Sl.tld {N:Nat→Prop}{w:World}{A:Option Addr}{xs:List Tld}(h:Sl rTld N w A xs)(k:Nat)(s:Tld)(hk:xs[k]? =some s):∃ blk off,A=some ⟨blk,off,none⟩∧blk < w.heap.size ∧
  w.cell? ⟨blk,off + k * 8,none⟩=some (.int .i64 s.q.no)∧w.cell? ⟨blk,off + k * 8 + 1,none⟩=some (.int .i64 s.q.at')∧w.cell? ⟨blk,off + k * 8 + 2,none⟩=some (.string s.q.src)∧w.cell? ⟨blk,off + k * 8 + 3,none⟩=some (.slice s.A s.n s.c) ∧
  w.cell? ⟨blk,off + k * 8 + 4,none⟩=some (.slice s.B s.m s.d)∧w.cell? ⟨blk,off + k * 8 + 5,none⟩=some (.int .i64 s.q.v.k)∧w.cell? ⟨blk,off + k * 8 + 6,none⟩=some (.string s.q.v.t)∧w.cell? ⟨blk,off + k * 8 + 7,none⟩=some (.int .i64 s.q.v.n):=by
 obtain ⟨blk,off,l,e1,h1,_,h3,h4⟩:=h k s hk;obtain rfl:l=Tld.cells s:=h3;exact ⟨blk,off,e1,h1,h4 0 _ rfl,h4 1 _ rfl,h4 2 _ rfl,h4 3 _ rfl,h4 4 _ rfl,h4 5 _ rfl,h4 6 _ rfl,h4 7 _ rfl⟩
def latC (a b:Tc):Int:=if Lib.compareInt a.at' b.at'≠0 then Lib.compareInt a.at' b.at' else Lib.compareInt a.no b.no
def TwoTld (X Y:Nat)(a b:Tld)(T:TypeId)(w:World):Prop:=LV w X (tlCs a) T∧LV w Y (tlCs b) T
theorem TwoTld.keep {X Y:Nat}{a b:Tld}{T:TypeId}{w w':World}(h:TwoTld X Y a b T w)(k:Below w.heap.size w w'):TwoTld X Y a b T w':=⟨LV.kb3 h.1 k h.1.lt,LV.kb3 h.2 k h.2.lt⟩
theorem two_tlds (w:World)(a b:Tld)(T:TypeId):TwoTld w.heap.size (w.heap.size + 1) a b T ((w.alloc (.cells (tlCs a) T)).alloc (.cells (tlCs b) T)) :=
 ⟨(LV.new w w.heap.size (tlCs a) T rfl).alloc _,LV.new (w.alloc (.cells (tlCs a) T)) (w.heap.size + 1) (tlCs b) T (by simp)⟩
theorem loadTl {w:World}{X:Nat}{t:Tld}(h:LV w X (tlCs t) 110):(Instr.loadAt 110 (.pointer (some ⟨X,0,none⟩))).run Tryz.prog w=.ok (.agg (tlCs t)) w:=by
 have c0:=h.all
 go_simp
theorem loadTlV {w:World}{X:Nat}{t:Tld}(h:LV w X (tlCs t) 110):(loadVar 110 ⟨X,0,none⟩).run Tryz.prog w=.ok (.agg (tlCs t)) w:=by
 have c0:=h.all
 go_simp
theorem loadTr {w:World}{X:Nat}{t:Tld}(h:LV w X (tlCs t) 128):(Instr.loadAt 128 (.pointer (some ⟨X,0,none⟩))).run Tryz.prog w=.ok (.agg (tlCs t)) w:=by
 have c0:=h.all
 go_simp
theorem loadTrV {w:World}{X:Nat}{t:Tld}(h:LV w X (tlCs t) 128):(loadVar 128 ⟨X,0,none⟩).run Tryz.prog w=.ok (.agg (tlCs t)) w:=by
 have c0:=h.all
 go_simp
theorem tyTld:STy 105 110 rTld.size 112 (.agg #[.int .i64 0,.int .i64 0,.string ⟨#[]⟩,.slice none 0 0,.slice none 0 0,.int .i64 0,.string ⟨#[]⟩,.int .i64 0]):=⟨Tryz.underlying105,by kernel_rfl,rfl,by decide⟩
theorem tyTlr:STy 124 128 rTld.size 112 (.agg #[.int .i64 0,.int .i64 0,.string ⟨#[]⟩,.slice none 0 0,.slice none 0 0,.int .i64 0,.string ⟨#[]⟩,.int .i64 0]):=⟨Tryz.underlying124,by kernel_rfl,rfl,by decide⟩
theorem Mem.setTl {w0 w:World}{cs:List Chunk}{X:Nat}{T:TypeId}{v0 v1 v2 v3 v4 v5 v6 v7:Value}(S:Mem w0 w (.loc X #[v0,v1,v2,v3,v4,v5,v6,v7] T::cs))(t:Tld):Mem w0 ((((((((w.setCell ⟨X,0,none⟩ (.int .i64 t.q.no)).setCell ⟨X,1,none⟩ (.int .i64 t.q.at')).setCell ⟨X,2,none⟩ (.string t.q.src)).setCell ⟨X,3,none⟩ (.slice t.A t.n t.c)).setCell ⟨X,4,none⟩ (.slice t.B t.m t.d)).setCell ⟨X,5,none⟩ (.int .i64 t.q.v.k)).setCell ⟨X,6,none⟩ (.string t.q.v.t)).setCell ⟨X,7,none⟩ (.int .i64 t.q.v.n)) (.loc X (tlCs t) T::cs):=by
 have h0:Mem w0 (w.setCell ⟨X,0,none⟩ (.int .i64 t.q.no)) (.loc X #[.int .i64 t.q.no,v1,v2,v3,v4,v5,v6,v7] T::cs):=S.set 0 0 (.int .i64 t.q.no) rfl;have h1:Mem w0 ((w.setCell ⟨X,0,none⟩ (.int .i64 t.q.no)).setCell ⟨X,1,none⟩ (.int .i64 t.q.at')) (.loc X #[.int .i64 t.q.no,.int .i64 t.q.at',v2,v3,v4,v5,v6,v7] T::cs):=h0.set 0 1 (.int .i64 t.q.at') rfl;have h2:Mem w0 (((w.setCell ⟨X,0,none⟩ (.int .i64 t.q.no)).setCell ⟨X,1,none⟩ (.int .i64 t.q.at')).setCell ⟨X,2,none⟩ (.string t.q.src)) (.loc X #[.int .i64 t.q.no,.int .i64 t.q.at',.string t.q.src,v3,v4,v5,v6,v7] T::cs):=h1.set 0 2 (.string t.q.src) rfl;have h3:Mem w0 ((((w.setCell ⟨X,0,none⟩ (.int .i64 t.q.no)).setCell ⟨X,1,none⟩ (.int .i64 t.q.at')).setCell ⟨X,2,none⟩ (.string t.q.src)).setCell ⟨X,3,none⟩ (.slice t.A t.n t.c)) (.loc X #[.int .i64 t.q.no,.int .i64 t.q.at',.string t.q.src,.slice t.A t.n t.c,v4,v5,v6,v7] T::cs):=h2.set 0 3 (.slice t.A t.n t.c) rfl;have h4:Mem w0 (((((w.setCell ⟨X,0,none⟩ (.int .i64 t.q.no)).setCell ⟨X,1,none⟩ (.int .i64 t.q.at')).setCell ⟨X,2,none⟩ (.string t.q.src)).setCell ⟨X,3,none⟩ (.slice t.A t.n t.c)).setCell ⟨X,4,none⟩ (.slice t.B t.m t.d)) (.loc X #[.int .i64 t.q.no,.int .i64 t.q.at',.string t.q.src,.slice t.A t.n t.c,.slice t.B t.m t.d,v5,v6,v7] T::cs):=h3.set 0 4 (.slice t.B t.m t.d) rfl;have h5:Mem w0 ((((((w.setCell ⟨X,0,none⟩ (.int .i64 t.q.no)).setCell ⟨X,1,none⟩ (.int .i64 t.q.at')).setCell ⟨X,2,none⟩ (.string t.q.src)).setCell ⟨X,3,none⟩ (.slice t.A t.n t.c)).setCell ⟨X,4,none⟩ (.slice t.B t.m t.d)).setCell ⟨X,5,none⟩ (.int .i64 t.q.v.k)) (.loc X #[.int .i64 t.q.no,.int .i64 t.q.at',.string t.q.src,.slice t.A t.n t.c,.slice t.B t.m t.d,.int .i64 t.q.v.k,v6,v7] T::cs):=h4.set 0 5 (.int .i64 t.q.v.k) rfl
 have h6:Mem w0 (((((((w.setCell ⟨X,0,none⟩ (.int .i64 t.q.no)).setCell ⟨X,1,none⟩ (.int .i64 t.q.at')).setCell ⟨X,2,none⟩ (.string t.q.src)).setCell ⟨X,3,none⟩ (.slice t.A t.n t.c)).setCell ⟨X,4,none⟩ (.slice t.B t.m t.d)).setCell ⟨X,5,none⟩ (.int .i64 t.q.v.k)).setCell ⟨X,6,none⟩ (.string t.q.v.t)) (.loc X #[.int .i64 t.q.no,.int .i64 t.q.at',.string t.q.src,.slice t.A t.n t.c,.slice t.B t.m t.d,.int .i64 t.q.v.k,.string t.q.v.t,v7] T::cs):=h5.set 0 6 (.string t.q.v.t) rfl;have h7:Mem w0 ((((((((w.setCell ⟨X,0,none⟩ (.int .i64 t.q.no)).setCell ⟨X,1,none⟩ (.int .i64 t.q.at')).setCell ⟨X,2,none⟩ (.string t.q.src)).setCell ⟨X,3,none⟩ (.slice t.A t.n t.c)).setCell ⟨X,4,none⟩ (.slice t.B t.m t.d)).setCell ⟨X,5,none⟩ (.int .i64 t.q.v.k)).setCell ⟨X,6,none⟩ (.string t.q.v.t)).setCell ⟨X,7,none⟩ (.int .i64 t.q.v.n)) (.loc X #[.int .i64 t.q.no,.int .i64 t.q.at',.string t.q.src,.slice t.A t.n t.c,.slice t.B t.m t.d,.int .i64 t.q.v.k,.string t.q.v.t,.int .i64 t.q.v.n] T::cs):=h6.set 0 7 (.int .i64 t.q.v.n) rfl;exact h7
set_option maxHeartbeats 2000000 in
set_option maxRecDepth 100000 in
theorem later_any (a b:Tld)(w:World) :
  Calls Tryz.prog 172 #[.agg (tlCs a),.agg (tlCs b)] w fun e w'=>e=.returned (.int .i64 (latC a.q b.q))∧Below w.heap.size w w':=by
 obtain ⟨R,HR⟩:∃ R,Hid (latC a.q b.q=R):=⟨_,Lib.hid rfl⟩;rw [HR.out];have hC:=two_tlds w a b 110;have Hb:Hid (Below w.heap.size w ((w.alloc (.cells (tlCs a) 110)).alloc (.cells (tlCs b) 110))):=((Below.refl _ _).alloc (Nat.le_refl _) _).alloc (by simp) _
 go_enter Tryz.func172,Tryz.ntmps172
 go_wp2_with fail
 generalize (w.alloc (.cells (tlCs a) 110)).alloc (.cells (tlCs b) 110)=w1 at *;obtain ⟨Y,hY⟩:∃ Y,Y=w.heap.size + 1:=⟨_,rfl⟩;obtain ⟨X,hX⟩:∃ X,X=w.heap.size:=⟨_,rfl⟩;rw [← hY,← hX] at hC;rw [← hY,← hX];clear hY hX;refine wp_region_mix (TwoTld X Y a b 110) [(true,0),(true,1),(true,2),(true,3),(true,4),(true,5),(true,7),(true,8),(true,9),(true,10),(true,11),(true,12),(false,6),(false,13),(false,14),(false,15),(true,16)] (by kernel_rfl) (by kernel_rfl) (fun w' hd=>hC.keep (hd.below _)) (fun KK hKK wd hd_wd=>?_);have hC1:=hC.keep (hd_wd.below _);have Hb1:Hid (Below w.heap.size w wd):=Hb.out.trans ((hd_wd.below _).mono Hb.out.size);clear hC Hb hd_wd
 repeat (refine mix_p rfl (fun K hK=>?_);go_simp;(try go_bits);(try simp (disch:=omega) only [if_pos]);(try simp (disch:=omega) only [if_neg]);(try simp (disch:=omega) only [dif_pos]);(try simp (disch:=omega) only [dif_neg]);(try go_simp);(refine hK _ ?_;clear hK K))
 refine mix_load (.int .i64 a.q.at') rfl rfl rfl rfl (fun _=>rfl) (fun w' h=>h.1.cell 1 _ rfl) ?_
 repeat (refine mix_p rfl (fun K hK=>?_);go_simp;(try go_bits);(try simp (disch:=omega) only [if_pos]);(try simp (disch:=omega) only [if_neg]);(try simp (disch:=omega) only [dif_pos]);(try simp (disch:=omega) only [dif_neg]);(try go_simp);(refine hK _ ?_;clear hK K))
 refine mix_load (.int .i64 b.q.at') rfl rfl rfl rfl (fun _=>rfl) (fun w' h=>h.2.cell 1 _ rfl) ?_
 repeat (refine mix_p rfl (fun K hK=>?_);go_simp;(try go_bits);(try simp (disch:=omega) only [if_pos]);(try simp (disch:=omega) only [if_neg]);(try simp (disch:=omega) only [dif_pos]);(try simp (disch:=omega) only [dif_neg]);(try go_simp);(refine hK _ ?_;clear hK K))
 refine mix_load (.int .i64 a.q.no) rfl rfl rfl rfl (fun _=>rfl) (fun w' h=>h.1.cell 0 _ rfl) ?_
 repeat (refine mix_p rfl (fun K hK=>?_);go_simp;(try go_bits);(try simp (disch:=omega) only [if_pos]);(try simp (disch:=omega) only [if_neg]);(try simp (disch:=omega) only [dif_pos]);(try simp (disch:=omega) only [dif_neg]);(try go_simp);(refine hK _ ?_;clear hK K))
 refine mix_load (.int .i64 b.q.no) rfl rfl rfl rfl (fun _=>rfl) (fun w' h=>h.2.cell 0 _ rfl) ?_;refine mix_l rfl (fun K hK=>?_) hC1
 go_wp2_with fail
 ((with_reducible refine (cmpInt_any a.q.at' b.q.at' _).mono ?_);rintro e _ ⟨rfl,rfl⟩)
 go_wp2_with fail
 refine ⟨hC1,?_⟩;refine mix_l rfl (fun K hK=>?_) hC1
 go_wp2_with fail
 ((with_reducible refine (cmpInt_any a.q.no b.q.no _).mono ?_);rintro e _ ⟨rfl,rfl⟩)
 go_wp2_with fail
 refine ⟨hC1,?_⟩;unfold latC at HR;generalize Lib.compareInt a.q.at' b.q.at'=p at *;generalize Lib.compareInt a.q.no b.q.no=q at *;refine mix_l rfl (fun K hK=>?_) hC1
 go_wp2_with fail
 have hb2:Below wd.heap.size wd (wd.alloc (.cells #[.int .i64 p,.int .i64 q] 3)):=(Below.refl _ _).alloc (Nat.le_refl _) _;have hC2:=hC1.keep hb2;have Hb2:Hid (Below w.heap.size w (wd.alloc (.cells #[.int .i64 p,.int .i64 q] 3))):=Hb1.out.alloc Hb1.out.size _;have lvZ:=LV.new wd wd.heap.size #[.int .i64 p,.int .i64 q] 3 rfl;refine ⟨hC2,?_⟩;have Ho:=Lib.hid (or_any wd.heap.size p q _ (lvZ.cell 0 _ rfl) (lvZ.cell 1 _ rfl));rw [HR.out] at Ho;clear hb2 hC1 Hb1 lvZ;refine mix_l rfl (fun K hK=>?_) hC2
 go_wp2_with fail
 ((with_reducible refine (Ho.out).mono ?_);rintro e _ ⟨rfl,rfl⟩)
 go_wp2_with fail
 refine ⟨hC2,?_⟩
 repeat (refine mix_p rfl (fun K hK=>?_);go_simp;(try go_bits);(try simp (disch:=omega) only [if_pos]);(try simp (disch:=omega) only [if_neg]);(try simp (disch:=omega) only [dif_pos]);(try simp (disch:=omega) only [dif_neg]);(try go_simp);(refine hK _ ?_;clear hK K))
 refine mix_nil ?_;simp only [Exit.then]
 refine hKK _ _ ?_
 go_wp2_with fail
 go_ret
 exact ⟨rfl,Hb2.out⟩
end
section
open Go Go.RowKit
def pick (p:Tc→Tc→Bool)(m:Tc):List Tc→Tc
 | []=>m
 | x::r=>pick p (if p x m then x else m) r
def pickT (p:Tc→Tc→Bool)(m:Tld):List Tld→Tld
 | []=>m
 | x::r=>pickT p (if p x.q m.q then x else m) r
theorem pickT_q (p:Tc→Tc→Bool):∀ (l:List Tld) (m:Tld),(pickT p m l).q=pick p m.q (l.map Tld.q)
 | [],m=>rfl
 | x::r,m=>by
  rw [pickT,pickT_q p r,List.map_cons,pick];congr 1
  split <;> rfl
theorem pickT_at {p:Tc→Tc→Bool}{xs:List Tld}{j:Nat}{x m:Tld}(h:xs[j]? =some x):pickT p m (xs.drop j)=pickT p (if p x.q m.q then x else m) (xs.drop (j + 1)):=by rw [drop_at3 h,pickT]
theorem tldRun {N:Nat→Prop}{w:World}{A:Option Addr}{xs:List Tld}(h:Sl rTld N w A xs)(k:Nat)(s:Tld)(hk:xs[k]? =some s):∃ blk off,A=some ⟨blk,off,none⟩∧∀ w',Below w.heap.size w w'→(Instr.loadAt 110 (.pointer (some ⟨blk,off + k * 8,none⟩))).run Tryz.prog w'=.ok (.agg (tlCs s)) w':=by
 obtain ⟨blk,off,e,hblk,d0,d1,d2,d3,d4,d5,d6,d7⟩:=h.tld k s hk;refine ⟨blk,off,e,fun w' h=>?_⟩;have e0:=(h.cell (p:=⟨blk,off + k * 8,none⟩) hblk).trans d0;have e1:=(h.cell (p:=⟨blk,off + k * 8 + 1,none⟩) hblk).trans d1;have e2:=(h.cell (p:=⟨blk,off + k * 8 + 2,none⟩) hblk).trans d2;have e3:=(h.cell (p:=⟨blk,off + k * 8 + 3,none⟩) hblk).trans d3;have e4:=(h.cell (p:=⟨blk,off + k * 8 + 4,none⟩) hblk).trans d4;have e5:=(h.cell (p:=⟨blk,off + k * 8 + 5,none⟩) hblk).trans d5;have e6:=(h.cell (p:=⟨blk,off + k * 8 + 6,none⟩) hblk).trans d6;have e7:=(h.cell (p:=⟨blk,off + k * 8 + 7,none⟩) hblk).trans d7;clear d0 d1 d2 d3 d4 d5 d6 d7
 go_simp
abbrev tlZ:Array Value:=#[.int .i64 0,.int .i64 0,.string ⟨#[]⟩,.slice none 0 0,.slice none 0 0,.int .i64 0,.string ⟨#[]⟩,.int .i64 0]
def FnT (w:World)(f:Nat)(caps:Array Value)(xs:List Tld)(cf:Tc→Tc→Int):Prop:=∀ (w':World) (a b:Tld),a∈xs→b∈xs→Below w.heap.size w w' →
 Calls Tryz.prog f (#[.agg (tlCs a),.agg (tlCs b)]++caps) w' fun e w''=>e=.returned (.int .i64 (cf a.q b.q))∧Below w'.heap.size w' w''
set_option maxHeartbeats 4000000 in
set_option maxRecDepth 100000 in
theorem maxTld_any (f:Nat)(caps:Array Value)(cf:Tc→Tc→Int)(ef:∀ args w,(callFunc f args).run Tryz.prog w=.ok (.enter f args) w)(N:Nat→Prop)(A:Option Addr)(x0:Tld)(r0:List Tld)(n c:Nat)(w:World)(hS:Sl rTld N w A (x0::r0))(hn:n=(x0::r0).length)(hl:(x0::r0).length≤1000000)(hf:FnT w f caps (x0::r0) cf) :
  Calls Tryz.prog 185 #[.slice A n c,.func (.func f) #[] caps] w fun e w'=>e=.returned (.agg (tlCs (pickT (fun x m=>decide (0 < cf x m)) x0 r0)))∧Below w.heap.size w w':=by
 obtain ⟨xs,hxs⟩:∃ xs,x0::r0=xs:=⟨_,rfl⟩;have hx0:xs[0]? =some x0:=by rw [← hxs];rfl
 have hr0:pickT (fun x m=>decide (0 < cf x m)) x0 (xs.drop 1)=pickT (fun x m=>decide (0 < cf x m)) x0 r0:=by rw [← hxs];rfl
 obtain ⟨p,hpd⟩:∃ p:Tc→Tc→Bool,(fun x m=>decide (0 < cf x m))=p:=⟨_,rfl⟩;rw [hpd] at hr0 ⊢;have Hpd:=Lib.hid hpd;clear hpd;obtain ⟨R,hR⟩:∃ R,pickT p x0 r0=R:=⟨_,rfl⟩;rw [hR] at hr0 ⊢;have hlt0:0 < xs.length:=lt_of_get hx0;rw [hxs] at hS hn hl hf;have Hr0:=Lib.hid hr0;unfold FnT at hf;have HF:=Lib.hid hf;have HS:=Lib.hid (fun k s hk=>tldRun hS k s hk);have HSc:=Lib.hid (fun w' (h:Below w.heap.size w w')=>hS.keepB h);have Hx0:=Lib.hid hx0;obtain ⟨Z,hZ⟩:∃ Z,Z=w.heap.size:=⟨_,rfl⟩;have T0:Mem w (w.alloc (.cells tlZ 110)) [.loc Z tlZ 110]:=(Mem.start w).newAt tlZ 110 Z hZ;subst hn;clear hr0 hR hxs hf hS hx0
 go_enter Tryz.func185,Tryz.ntmps185
 go_upto_region 1 with fail
 rw [← hZ];clear hZ;generalize w.alloc (.cells tlZ 110)=w1 at *;obtain ⟨bt,ot,rfl,hbt,d0,d1,d2,d3,d4,d5,d6,d7⟩:=(HSc.out w1 T0.b).tld 0 x0 Hx0.out;rw [Nat.zero_mul,Nat.add_zero] at d0 d1 d2 d3 d4 d5 d6 d7
 go_upto_region 4 with fail
 clear d0 d1 d2 d3 d4 d5 d6 d7 hbt;obtain ⟨M,hM⟩:∃ M,M=w1.heap.size:=⟨_,rfl⟩;have T1:Mem w (w1.alloc (.cells (tlCs x0) 110)) [.loc M (tlCs x0) 110,.loc Z tlZ 110]:=(T0.newAt (tlCs x0) 110 M hM).front;rw [← hM];clear hM T0;generalize w1.alloc (.cells (tlCs x0) 110)=w2 at *;have Hm0:Hid (x0∈xs):=List.mem_of_getElem? Hx0.out
 go_wp2_with fail
 go_loopw [6] (fun i wr=>∃ (k:Nat) (m:Tld),i=.int .i64 k∧1≤k∧k≤xs.length∧Hid (m∈xs)∧Hid (pickT p m (xs.drop k)=R)∧Mem w wr [.loc M (tlCs m) 110,.loc Z tlZ 110]) (fun i _=>xs.length - (intOf i).toNat)
 case atStart=>exact ⟨1,x0,rfl,Nat.le_refl _,hlt0,Hm0,Hr0,T1⟩
 case round =>
  clear T1 Hr0 Hm0 Hx0;obtain ⟨k,m,rfl,hk1,hk,Hm,Hp,T⟩:=hrel;by_cases hlt:k < xs.length
  ·obtain ⟨x,hx⟩:∃ x,xs[k]? =some x:=⟨_,List.getElem?_eq_getElem hlt⟩;obtain ⟨bt',ot',e9,hld⟩:=HS.out k x hx;simp only [Option.some.injEq,Addr.mk.injEq,and_true] at e9
   obtain ⟨rfl,rfl⟩:=e9;have Hld:=Lib.hid hld;have Hst:=Lib.hid (pickT_at (p:=p) (m:=m) hx);have Hx:=Lib.hid (List.mem_of_getElem? hx);have Hxk:=Lib.hid hx;clear hx hld
   go_upto_region 7 with fail
   go_wp2_with fail
   refine wp_region_mix (fun w'=>Below w.heap.size w w'∧LV w' M (tlCs m) 110) [(true,0),(true,1),(true,2),(true,3),(true,4),(true,5),(false,6),(true,7)] (by kernel_rfl) (by kernel_rfl) (fun w' hd=>⟨(T.below (hd.below _)).b,(T.below (hd.below _)).lv 0 rfl⟩) (fun KK hKK wd hd=>?_);have T2:=T.below (hd.below _);clear hd T
   repeat (refine mix_p rfl (fun K hK=>?_);go_simp;(try go_bits);(try simp (disch:=omega) only [if_pos]);(try simp (disch:=omega) only [if_neg]);(try simp (disch:=omega) only [dif_pos]);(try simp (disch:=omega) only [dif_neg]);(try go_simp);(refine hK _ ?_;clear hK K))
   refine mix_loadR (.agg (tlCs x)) rfl rfl rfl rfl (fun w' h=>Hld.out w' h.1) ?_;refine mix_loadR (.agg (tlCs m)) rfl rfl rfl rfl (fun w' h=>loadTl h.2) ?_;refine mix_l rfl (fun K hK=>?_) ⟨T2.b,T2.lv 0 rfl⟩;have Ho:=Lib.hid (HF.out wd x m Hx.out Hm.out T2.b);obtain ⟨cv,hcv⟩:∃ cv,cf x.q m.q=cv:=⟨_,rfl⟩;have Hcv:=Lib.hid hcv;rw [hcv] at Ho;clear hcv
   go_wp2_with fail
   ((with_reducible refine (Ho.out).mono ?_);rintro e w5 ⟨rfl,hl5⟩)
   have T3:=T2.below hl5;have hC3:Below w.heap.size w w5∧LV w5 M (tlCs m) 110:=⟨T3.b,T3.lv 0 rfl⟩;clear Ho hl5 T2
   go_wp2_with fail
   refine ⟨hC3,?_⟩;clear hC3
   repeat (refine mix_p rfl (fun K hK=>?_);go_simp;(try go_bits);(try simp (disch:=omega) only [if_pos]);(try simp (disch:=omega) only [if_neg]);(try simp (disch:=omega) only [dif_pos]);(try simp (disch:=omega) only [dif_neg]);(try go_simp);(refine hK _ ?_;clear hK K))
   refine mix_nil ?_;simp only [Exit.then]
   refine hKK _ _ ?_;have Hpx:Hid (p x.q m.q=decide (0 < cv)):=by
    show _=_;rw [← Hpd.out,← Hcv.out]
   by_cases hc:0 < cv
   ·have Hm2:Hid (pickT p x (xs.drop (k + 1))=R):=by
     have h:=Hst.out;rw [if_pos (Hpx.out.trans (decide_eq_true hc)),Hp.out] at h;exact h.symm
    obtain ⟨_,_,e9,hbt,d0,d1,d2,d3,d4,d5,d6,d7⟩:=(HSc.out w5 T3.b).tld k x Hxk.out;simp only [Option.some.injEq,Addr.mk.injEq,and_true] at e9
    obtain ⟨rfl,rfl⟩:=e9;have l1:=(T3.lv 0 rfl).all;have T4:=T3.setTl x;clear T3 Hst Hp
    go_wp2_with fail
    go_roundw
    case rel=>exact ⟨k + 1,x,by go_num,by omega,by omega,Hx,Hm2,T4⟩
    case measure=>simp [intOf];omega
   ·have Hm2:Hid (pickT p m (xs.drop (k + 1))=R):=by
     have h:=Hst.out;rw [if_neg (by rw [Hpx.out];simpa using hc),Hp.out] at h;exact h.symm
    clear Hst Hp
    go_wp2_with fail
    go_roundw
    case rel=>exact ⟨k + 1,m,by go_num,by omega,by omega,Hm,Hm2,T3⟩
    case measure=>simp [intOf];omega
  ·obtain rfl:k=xs.length:=by omega
   have Hfin:Hid (m=R):=by
    have h:=Hp.out;rw [List.drop_length] at h;exact h
   have l1:=(T.lv 1 rfl).all;have l0:=(T.lv 0 rfl).all;have T4:=T.swap.setTl m;clear T
   go_wp2_with fail
   exact bodyPost_ret (results_cell1 rfl rfl (loadTlV (T4.lv 0 rfl))) rfl ⟨by rw [Hfin.out],T4.b⟩
set_option maxHeartbeats 4000000 in
set_option maxRecDepth 100000 in
theorem minTld_any (f:Nat)(caps:Array Value)(cf:Tc→Tc→Int)(ef:∀ args w,(callFunc f args).run Tryz.prog w=.ok (.enter f args) w)(N:Nat→Prop)(A:Option Addr)(x0:Tld)(r0:List Tld)(n c:Nat)(w:World)(hS:Sl rTld N w A (x0::r0))(hn:n=(x0::r0).length)(hl:(x0::r0).length≤1000000)(hf:FnT w f caps (x0::r0) cf) :
  Calls Tryz.prog 171 #[.slice A n c,.func (.func f) #[] caps] w fun e w'=>e=.returned (.agg (tlCs (pickT (fun x m=>decide (cf x m < 0)) x0 r0)))∧Below w.heap.size w w':=by
 obtain ⟨xs,hxs⟩:∃ xs,x0::r0=xs:=⟨_,rfl⟩;have hx0:xs[0]? =some x0:=by rw [← hxs];rfl
 have hr0:pickT (fun x m=>decide (cf x m < 0)) x0 (xs.drop 1)=pickT (fun x m=>decide (cf x m < 0)) x0 r0:=by rw [← hxs];rfl
 obtain ⟨p,hpd⟩:∃ p:Tc→Tc→Bool,(fun x m=>decide (cf x m < 0))=p:=⟨_,rfl⟩;rw [hpd] at hr0 ⊢;have Hpd:=Lib.hid hpd;clear hpd;obtain ⟨R,hR⟩:∃ R,pickT p x0 r0=R:=⟨_,rfl⟩;rw [hR] at hr0 ⊢;have hlt0:0 < xs.length:=lt_of_get hx0;rw [hxs] at hS hn hl hf;have Hr0:=Lib.hid hr0;unfold FnT at hf;have HF:=Lib.hid hf;have HS:=Lib.hid (fun k s hk=>tldRun hS k s hk);have HSc:=Lib.hid (fun w' (h:Below w.heap.size w w')=>hS.keepB h);have Hx0:=Lib.hid hx0;obtain ⟨Z,hZ⟩:∃ Z,Z=w.heap.size:=⟨_,rfl⟩;have T0:Mem w (w.alloc (.cells tlZ 110)) [.loc Z tlZ 110]:=(Mem.start w).newAt tlZ 110 Z hZ;subst hn;clear hr0 hR hxs hf hS hx0
 go_enter Tryz.func171,Tryz.ntmps171
 go_upto_region 1 with fail
 rw [← hZ];clear hZ;generalize w.alloc (.cells tlZ 110)=w1 at *;obtain ⟨bt,ot,rfl,hbt,d0,d1,d2,d3,d4,d5,d6,d7⟩:=(HSc.out w1 T0.b).tld 0 x0 Hx0.out;rw [Nat.zero_mul,Nat.add_zero] at d0 d1 d2 d3 d4 d5 d6 d7
 go_upto_region 4 with fail
 clear d0 d1 d2 d3 d4 d5 d6 d7 hbt;obtain ⟨M,hM⟩:∃ M,M=w1.heap.size:=⟨_,rfl⟩;have T1:Mem w (w1.alloc (.cells (tlCs x0) 110)) [.loc M (tlCs x0) 110,.loc Z tlZ 110]:=(T0.newAt (tlCs x0) 110 M hM).front;rw [← hM];clear hM T0;generalize w1.alloc (.cells (tlCs x0) 110)=w2 at *;have Hm0:Hid (x0∈xs):=List.mem_of_getElem? Hx0.out
 go_wp2_with fail
 go_loopw [6] (fun i wr=>∃ (k:Nat) (m:Tld),i=.int .i64 k∧1≤k∧k≤xs.length∧Hid (m∈xs)∧Hid (pickT p m (xs.drop k)=R)∧Mem w wr [.loc M (tlCs m) 110,.loc Z tlZ 110]) (fun i _=>xs.length - (intOf i).toNat)
 case atStart=>exact ⟨1,x0,rfl,Nat.le_refl _,hlt0,Hm0,Hr0,T1⟩
 case round =>
  clear T1 Hr0 Hm0 Hx0;obtain ⟨k,m,rfl,hk1,hk,Hm,Hp,T⟩:=hrel;by_cases hlt:k < xs.length
  ·obtain ⟨x,hx⟩:∃ x,xs[k]? =some x:=⟨_,List.getElem?_eq_getElem hlt⟩;obtain ⟨bt',ot',e9,hld⟩:=HS.out k x hx;simp only [Option.some.injEq,Addr.mk.injEq,and_true] at e9
   obtain ⟨rfl,rfl⟩:=e9;have Hld:=Lib.hid hld;have Hst:=Lib.hid (pickT_at (p:=p) (m:=m) hx);have Hx:=Lib.hid (List.mem_of_getElem? hx);have Hxk:=Lib.hid hx;clear hx hld
   go_upto_region 7 with fail
   go_wp2_with fail
   refine wp_region_mix (fun w'=>Below w.heap.size w w'∧LV w' M (tlCs m) 110) [(true,0),(true,1),(true,2),(true,3),(true,4),(true,5),(false,6),(true,7)] (by kernel_rfl) (by kernel_rfl) (fun w' hd=>⟨(T.below (hd.below _)).b,(T.below (hd.below _)).lv 0 rfl⟩) (fun KK hKK wd hd=>?_);have T2:=T.below (hd.below _);clear hd T
   repeat (refine mix_p rfl (fun K hK=>?_);go_simp;(try go_bits);(try simp (disch:=omega) only [if_pos]);(try simp (disch:=omega) only [if_neg]);(try simp (disch:=omega) only [dif_pos]);(try simp (disch:=omega) only [dif_neg]);(try go_simp);(refine hK _ ?_;clear hK K))
   refine mix_loadR (.agg (tlCs x)) rfl rfl rfl rfl (fun w' h=>Hld.out w' h.1) ?_;refine mix_loadR (.agg (tlCs m)) rfl rfl rfl rfl (fun w' h=>loadTl h.2) ?_;refine mix_l rfl (fun K hK=>?_) ⟨T2.b,T2.lv 0 rfl⟩;have Ho:=Lib.hid (HF.out wd x m Hx.out Hm.out T2.b);obtain ⟨cv,hcv⟩:∃ cv,cf x.q m.q=cv:=⟨_,rfl⟩;have Hcv:=Lib.hid hcv;rw [hcv] at Ho;clear hcv
   go_wp2_with fail
   ((with_reducible refine (Ho.out).mono ?_);rintro e w5 ⟨rfl,hl5⟩)
   have T3:=T2.below hl5;have hC3:Below w.heap.size w w5∧LV w5 M (tlCs m) 110:=⟨T3.b,T3.lv 0 rfl⟩;clear Ho hl5 T2
   go_wp2_with fail
   refine ⟨hC3,?_⟩;clear hC3
   repeat (refine mix_p rfl (fun K hK=>?_);go_simp;(try go_bits);(try simp (disch:=omega) only [if_pos]);(try simp (disch:=omega) only [if_neg]);(try simp (disch:=omega) only [dif_pos]);(try simp (disch:=omega) only [dif_neg]);(try go_simp);(refine hK _ ?_;clear hK K))
   refine mix_nil ?_;simp only [Exit.then]
   refine hKK _ _ ?_;have Hpx:Hid (p x.q m.q=decide (cv < 0)):=by
    show _=_;rw [← Hpd.out,← Hcv.out]
   by_cases hc:cv < 0
   ·have Hm2:Hid (pickT p x (xs.drop (k + 1))=R):=by
     have h:=Hst.out;rw [if_pos (Hpx.out.trans (decide_eq_true hc)),Hp.out] at h;exact h.symm
    obtain ⟨_,_,e9,hbt,d0,d1,d2,d3,d4,d5,d6,d7⟩:=(HSc.out w5 T3.b).tld k x Hxk.out;simp only [Option.some.injEq,Addr.mk.injEq,and_true] at e9
    obtain ⟨rfl,rfl⟩:=e9;have l1:=(T3.lv 0 rfl).all;have T4:=T3.setTl x;clear T3 Hst Hp
    go_wp2_with fail
    go_roundw
    case rel=>exact ⟨k + 1,x,by go_num,by omega,by omega,Hx,Hm2,T4⟩
    case measure=>simp [intOf];omega
   ·have Hm2:Hid (pickT p m (xs.drop (k + 1))=R):=by
     have h:=Hst.out;rw [if_neg (by rw [Hpx.out];simpa using hc),Hp.out] at h;exact h.symm
    clear Hst Hp
    go_wp2_with fail
    go_roundw
    case rel=>exact ⟨k + 1,m,by go_num,by omega,by omega,Hm,Hm2,T3⟩
    case measure=>simp [intOf];omega
  ·obtain rfl:k=xs.length:=by omega
   have Hfin:Hid (m=R):=by
    have h:=Hp.out;rw [List.drop_length] at h;exact h
   have l1:=(T.lv 1 rfl).all;have l0:=(T.lv 0 rfl).all;have T4:=T.swap.setTl m;clear T
   go_wp2_with fail
   exact bodyPost_ret (results_cell1 rfl rfl (loadTlV (T4.lv 0 rfl))) rfl ⟨by rw [Hfin.out],T4.b⟩
end
section
open Go Go.RowKit
def FnM (w:World)(f:Nat)(caps:Array Value)(xs:List Tld)(ms:Tc→Int):Prop:=∀ (w':World) (a:Tld),a∈xs→Below w.heap.size w w' →
 Calls Tryz.prog f (#[.agg (tlCs a)]++caps) w' fun e w''=>e=.returned (.int .i64 (ms a.q))∧Below w'.heap.size w' w''
def bestC (ms:Tc→Int)(a b:Tc):Int:=if Lib.compareInt (ms a) (ms b)≠0 then Lib.compareInt (ms a) (ms b) else latC a b
theorem field3 (a b k n:Int)(s t:ByteArray)(u v:Value)(hu:∃ A n c,u=.slice A n c)(hv:∃ A n c,v=.slice A n c)(w:World):(Instr.field 110 (.agg #[.int .i64 a,.int .i64 b,.string s,u,v,.int .i64 k,.string t,.int .i64 n]) 1).run Tryz.prog w=.ok (.agg #[.int .i64 k,.string t,.int .i64 n]) w:=by
 obtain ⟨A,n1,c,rfl⟩:=hu;obtain ⟨B,m,d,rfl⟩:=hv;have u48:=Tryz.underlying110;have a4:=Tryz.isAgg57;simp only [Instr.field,run_underlying u48,Sem.run_bind,Result.andThen_ok]
 go_simp
 first | rfl | simp [asAgg]
theorem loadV3 {w:World}{X:Nat}{a b c:Value}(h:LV w X #[a,b,c] 57):(loadVar 57 ⟨X,0,none⟩).run Tryz.prog w=.ok (.agg #[a,b,c]) w:=by
 have c0:=h.all
 go_simp
set_option maxHeartbeats 4000000 in
set_option maxRecDepth 100000 in
theorem best1_any (f U:Nat)(caps:Array Value)(ms:Tc→Int)(ef:∀ args w,(callFunc f args).run Tryz.prog w=.ok (.enter f args) w)(xs:List Tld)(a b:Tld)(w:World)(ha:a∈xs)(hb:b∈xs)(hf:FnM w f caps xs ms)(hU:LV w U #[.func (.func f) #[] caps] 237) :
  Calls Tryz.prog 251 #[.agg (tlCs a),.agg (tlCs b),.pointer (some ⟨U,0,none⟩)] w fun e w'=>e=.returned (.int .i64 (bestC ms a.q b.q))∧Below w.heap.size w w':=by
 obtain ⟨R,HR⟩:∃ R,Hid (bestC ms a.q b.q=R):=⟨_,Lib.hid rfl⟩;rw [HR.out];unfold bestC at HR;have hC:=two_tlds w a b 110;have Hb:Hid (Below w.heap.size w ((w.alloc (.cells (tlCs a) 110)).alloc (.cells (tlCs b) 110))):=((Below.refl _ _).alloc (Nat.le_refl _) _).alloc (by simp) _;have hCU:LV ((w.alloc (.cells (tlCs a) 110)).alloc (.cells (tlCs b) 110)) U #[.func (.func f) #[] caps] 237:=LV.kb3 hU Hb.out hU.lt;unfold FnM at hf;have HF:=Lib.hid hf;have Ha:=Lib.hid ha;have HB:=Lib.hid hb;clear hf ha hb hU
 go_enter Tryz.func251,Tryz.ntmps251
 go_wp2_with fail
 generalize (w.alloc (.cells (tlCs a) 110)).alloc (.cells (tlCs b) 110)=w1 at *;obtain ⟨Y,hY⟩:∃ Y,Y=w.heap.size + 1:=⟨_,rfl⟩;obtain ⟨X,hX⟩:∃ X,X=w.heap.size:=⟨_,rfl⟩;rw [← hY,← hX] at hC;rw [← hY,← hX];clear hY hX;have hk:∀ w',Below w1.heap.size w1 w'→TwoTld X Y a b 110 w'∧LV w' U #[.func (.func f) #[] caps] 237:=fun w' h=>⟨hC.keep h,LV.kb3 hCU h hCU.lt⟩;have Hk:=Lib.hid hk;refine wp_region_mix (fun w'=>TwoTld X Y a b 110 w'∧LV w' U #[.func (.func f) #[] caps] 237) [(true,0),(true,1),(true,3),(true,4),(true,7),(true,8),(false,2),(false,5),(false,6),(false,9),(false,10),(false,11),(true,12)] (by kernel_rfl) (by kernel_rfl) (fun w' hd=>Hk.out w' (hd.below _)) (fun KK hKK wd hd_wd=>?_);have hb1:Below w1.heap.size w1 wd:=hd_wd.below _;clear hd_wd hC hCU hk
 repeat (refine mix_p rfl (fun K hK=>?_);go_simp;(try go_bits);(try simp (disch:=omega) only [if_pos]);(try simp (disch:=omega) only [if_neg]);(try simp (disch:=omega) only [dif_pos]);(try simp (disch:=omega) only [dif_neg]);(try go_simp);(refine hK _ ?_;clear hK K))
 refine mix_loadR (.func (.func f) #[] caps) rfl rfl rfl rfl (fun w' h=>loadC rfl (h.2.cell 0 _ rfl)) ?_;refine mix_loadR (.agg (tlCs a)) rfl rfl rfl rfl (fun w' h=>loadTl h.1.1) ?_;refine mix_loadR (.func (.func f) #[] caps) rfl rfl rfl rfl (fun w' h=>loadC rfl (h.2.cell 0 _ rfl)) ?_;refine mix_loadR (.agg (tlCs b)) rfl rfl rfl rfl (fun w' h=>loadTl h.1.2) ?_;refine mix_loadR (.agg (tlCs a)) rfl rfl rfl rfl (fun w' h=>loadTl h.1.1) ?_;refine mix_loadR (.agg (tlCs b)) rfl rfl rfl rfl (fun w' h=>loadTl h.1.2) ?_;obtain ⟨ma,hma⟩:∃ ma,ms a.q=ma:=⟨_,rfl⟩;obtain ⟨mb,hmb⟩:∃ mb,ms b.q=mb:=⟨_,rfl⟩;rw [hma,hmb] at HR;have H1:=Lib.hid (HF.out wd a Ha.out (Hb.out.trans (hb1.mono Hb.out.size)));rw [hma] at H1;refine mix_l rfl (fun K hK=>?_) (Hk.out _ hb1)
 go_wp2_with fail
 ((with_reducible refine (H1.out).mono ?_);rintro e w2 ⟨rfl,hl2⟩)
 have hb2:=hb1.trans (hl2.mono hb1.size);have hC2:=Hk.out _ hb2;clear hl2 H1
 go_wp2_with fail
 refine ⟨hC2,?_⟩;clear hC2;have H2:=Lib.hid (HF.out w2 b HB.out (Hb.out.trans (hb2.mono Hb.out.size)));rw [hmb] at H2;refine mix_l rfl (fun K hK=>?_) (Hk.out _ hb2)
 go_wp2_with fail
 ((with_reducible refine (H2.out).mono ?_);rintro e w3 ⟨rfl,hl3⟩)
 have hb3:=hb2.trans (hl3.mono hb2.size);have hC3:=Hk.out _ hb3;clear hl3 H2
 go_wp2_with fail
 refine ⟨hC3,?_⟩;clear hC3;refine mix_l rfl (fun K hK=>?_) (Hk.out _ hb3);have hC3:=Hk.out _ hb3
 go_wp2_with fail
 ((with_reducible refine (cmpInt_any ma mb _).mono ?_);rintro e _ ⟨rfl,rfl⟩)
 go_wp2_with fail
 refine ⟨hC3,?_⟩;clear hC3;generalize Lib.compareInt ma mb=p at *;have H3:=Lib.hid (later_any a b w3);generalize latC a.q b.q=q at *;refine mix_l rfl (fun K hK=>?_) (Hk.out _ hb3)
 go_wp2_with fail
 ((with_reducible refine (H3.out).mono ?_);rintro e w4 ⟨rfl,hl4⟩)
 have hb4:=hb3.trans (hl4.mono hb3.size);have hC4:=Hk.out _ hb4;clear hl4 H3
 go_wp2_with fail
 refine ⟨hC4,?_⟩;clear hC4;refine mix_l rfl (fun K hK=>?_) (Hk.out _ hb4);have hb5:Below w1.heap.size w1 (w4.alloc (.cells #[.int .i64 p,.int .i64 q] 3)):=hb4.alloc hb4.size _;have hC5:=Hk.out _ hb5;have lvZ:=LV.new w4 w4.heap.size #[.int .i64 p,.int .i64 q] 3 rfl
 go_wp2_with fail
 refine ⟨hC5,?_⟩;have Ho:=Lib.hid (or_any w4.heap.size p q _ (lvZ.cell 0 _ rfl) (lvZ.cell 1 _ rfl));rw [HR.out] at Ho;have Hb5:=Lib.hid (Hb.out.trans (hb5.mono Hb.out.size));clear lvZ;refine mix_l rfl (fun K hK=>?_) hC5
 go_wp2_with fail
 ((with_reducible refine (Ho.out).mono ?_);rintro e _ ⟨rfl,rfl⟩)
 go_wp2_with fail
 refine ⟨hC5,?_⟩
 repeat (refine mix_p rfl (fun K hK=>?_);go_simp;(try go_bits);(try simp (disch:=omega) only [if_pos]);(try simp (disch:=omega) only [if_neg]);(try simp (disch:=omega) only [dif_pos]);(try simp (disch:=omega) only [dif_neg]);(try go_simp);(refine hK _ ?_;clear hK K))
 refine mix_nil ?_;simp only [Exit.then]
 refine hKK _ _ ?_
 go_wp2_with fail
 go_ret
 exact ⟨rfl,Hb5.out⟩
set_option maxHeartbeats 4000000 in
set_option maxRecDepth 100000 in
theorem best_any (f:Nat)(caps:Array Value)(ms:Tc→Int)(ef:∀ args w,(callFunc f args).run Tryz.prog w=.ok (.enter f args) w)(N:Nat→Prop)(A:Option Addr)(x0:Tld)(r0:List Tld)(n c:Nat)(w:World)(hS:Sl rTld N w A (x0::r0))(hn:n=(x0::r0).length)(hl:(x0::r0).length≤1000000)(hf:FnM w f caps (x0::r0) ms) :
  Calls Tryz.prog 173 #[.slice A n c,.func (.func f) #[] caps] w fun e w'=>e=.returned (.agg #[.int .i64 (pickT (fun x m=>decide (0 < bestC ms x m)) x0 r0).q.v.k,.string (pickT (fun x m=>decide (0 < bestC ms x m)) x0 r0).q.v.t,.int .i64 (pickT (fun x m=>decide (0 < bestC ms x m)) x0 r0).q.v.n])∧Below w.heap.size w w':=by
 obtain ⟨g,hg⟩:∃ g,pickT (fun x m=>decide (0 < bestC ms x m)) x0 r0=g:=⟨_,rfl⟩;rw [hg];have Hg:=Lib.hid hg;clear hg;obtain ⟨U,hU⟩:∃ U,U=w.heap.size:=⟨_,rfl⟩;have T0:Mem w (w.alloc (.cells #[.func (.func f) #[] caps] 237)) [.loc U #[.func (.func f) #[] caps] 237]:=(Mem.start w).newAt _ 237 U hU;have T:Mem w ((w.alloc (.cells #[.func (.func f) #[] caps] 237)).alloc (.cells #[.int .i64 0,.string ⟨#[]⟩,.int .i64 0] 57)) [.loc U #[.func (.func f) #[] caps] 237,.loc (U + 1) #[.int .i64 0,.string ⟨#[]⟩,.int .i64 0] 57]:=T0.newAt #[.int .i64 0,.string ⟨#[]⟩,.int .i64 0] 57 (U + 1) (by rw [hU,World.size_alloc]);have HS:=Lib.hid (fun w' (h:Below w.heap.size w w')=>hS.keepB h);have Hf:=Lib.hid hf;have Hn:=Lib.hid hn;have Hl:=Lib.hid hl;clear hS hf T0 hn hl
 go_enter Tryz.func173,Tryz.ntmps173
 go_upto_region 1 with fail
 rw [← hU];clear hU;generalize (w.alloc (.cells #[.func (.func f) #[] caps] 237)).alloc (.cells #[.int .i64 0,.string ⟨#[]⟩,.int .i64 0] 57)=w1 at *;obtain ⟨Z,hZ⟩:∃ Z,Z=U + 1:=⟨_,rfl⟩;rw [← hZ] at T ⊢;clear hZ;have Hfn:Hid (FnT w1 251 #[.pointer (some ⟨U,0,none⟩)] (x0::r0) (bestC ms)):=fun w' a b ha hb h =>
  best1_any f U caps ms ef (x0::r0) a b w' ha hb (fun w'' y hy h2=>Hf.out w'' y hy (T.b.trans ((h.mono (Nat.le_refl _)).trans (h2.mono h.size) |>.mono T.b.size))) (LV.kb3 (T.lv 0 rfl) h (T.lv 0 rfl).lt)
 have Hm:=Lib.hid (maxTld_any 251 #[.pointer (some ⟨U,0,none⟩)] (bestC ms) (enters_of Tryz.func251 (by kernel_rfl) rfl) N A x0 r0 n c w1 (HS.out w1 T.b) Hn.out Hl.out Hfn.out);rw [Hg.out] at Hm;clear Hfn
 go_wp2_with fail
 ((with_reducible refine (Hm.out).mono ?_);rintro e w2 ⟨rfl,hl2⟩)
 have T2:=T.below hl2;have hfd:=field3 g.q.no g.q.at' g.q.v.k g.q.v.n g.q.src g.q.v.t (.slice g.A g.n g.c) (.slice g.B g.m g.d) ⟨_,_,_,rfl⟩ ⟨_,_,_,rfl⟩;have l1:=(T2.lv 1 rfl).all;have T3:Mem w _ [.loc U #[.func (.func f) #[] caps] 237,.loc Z #[.int .i64 g.q.v.k,.string g.q.v.t,.int .i64 g.q.v.n] 57]:=((T2.set 1 0 (.int .i64 g.q.v.k) rfl).set 1 1 (.string g.q.v.t) rfl).set 1 2 (.int .i64 g.q.v.n) rfl;clear T hl2 Hm T2
 go_wp2_with fail
 exact bodyPost_ret (results_cell1 rfl rfl (loadV3 (T3.lv 1 rfl))) rfl ⟨rfl,T3.b⟩
end
section
open Go Go.RowKit
theorem runes_pts:∀ (f:Nat) (s:ByteArray),s.size≤f→(pts f s).length=Lib.runeCountFrom s f 0:=by
 intro f;induction f with
 | zero=>intro s h;rfl
 | succ f ih =>
  intro s h;rcases Nat.eq_zero_or_pos s.size with h0 | h0
  ·rw [pts_nil _ _ h0,Lib.runeCountFrom_end _ _ _ (by omega)];rfl
  ·have hd:=dec_rng s h0;have hz:(s.extract (Lib.decodeGo s).2 s.size).size=s.size - (Lib.decodeGo s).2:=by rw [ByteArray.size_extract];omega
   rw [pts_cons _ _ h0,List.length_cons,ih _ (by omega),Lib.tail_count,Lib.runeCountFrom,if_pos h0,Nat.add_comm,Nat.zero_add,Nat.add_zero];unfold Lib.decodeGo;rw [if_neg (by omega)]
theorem runeCount_pts (s:ByteArray):(pts s.size s).length=Lib.runeCount s:=runes_pts s.size s (Nat.le_refl _)
theorem runeCount_any (s:ByteArray)(w:World)(hs:s.size≤1000000):Calls Tryz.prog 175 #[.string s] w fun e w'=>e=.returned (.int .i64 (Lib.runeCount s))∧Below w.heap.size w w':=by
 have h:=Any.utf8_RuneCountInString Tryz.lays195 s w (by omega);refine h.mono ?_;rintro e w' ⟨rfl,pos,rfl⟩;exact ⟨rfl,(Below.refl _ _).alloc (Nat.le_refl _) _⟩
end
section
open Go Go.RowKit Go.MapKept
abbrev vtVal (x:Vt):Value:=.agg #[.int .i64 x.k,.string x.t,.int .i64 x.n]
theorem eqVt_raw (x y:Vt)(w:World):(Op.equal 57 (vtVal x) (vtVal y)).run Tryz.prog w=.ok (x.k==y.k && ((x.t.toList==y.t.toList) && (x.n==y.n))) w:=by
 have u1:=Tryz.underlying3;have u2:=Tryz.underlying9;have a1:=Tryz.isAgg3;have a2:=Tryz.isAgg9;show (Op.equalIn (9999 + 1) 57 (.agg #[.int .i64 x.k,.string x.t,.int .i64 x.n]) (.agg #[.int .i64 y.k,.string y.t,.int .i64 y.n])).run Tryz.prog w=_;rw [run_equalIn_agg w 9999 57 _ _ (by kernel_rfl) (by kernel_rfl)];simp only [Program.fieldsOf,Tryz.underlying57]
 go_simp
 by_cases h1:x.k=y.k <;> by_cases h2:x.t.toList=y.t.toList <;> by_cases h3:x.n=y.n <;> simp [h1,h2,h3]
theorem eqVt_run (x y:Vt)(w:World):(Op.equal 57 (vtVal x) (vtVal y)).run Tryz.prog w=.ok (decide (x=y)) w:=by
 have e:(x.k==y.k && ((x.t.toList==y.t.toList) && (x.n==y.n)))=decide (x=y):=by
  rw [Bool.eq_iff_iff,decide_eq_true_eq,Bool.and_eq_true,Bool.and_eq_true,beq_iff_eq,beq_iff_eq,beq_iff_eq];obtain ⟨k,t,n⟩:=x;obtain ⟨k2,t2,n2⟩:=y;constructor
  ·rintro ⟨rfl,h,rfl⟩;rw [ByteArray.toList_eq,ByteArray.toList_eq] at h;obtain rfl:t=t2:=by
    cases t;cases t2
    simp only [ByteArray.mk.injEq]
    exact Array.toList_inj.1 h
   rfl
  ·intro h;injection h with h1 h2 h3
   exact ⟨h1,by rw [h2],h3⟩
 rw [← e];exact eqVt_raw x y w
theorem chkVt_n (x:Vt)(b:Bool)(n:Nat)(w:World):(Instr.checkKey b (n + 2) 57 (vtVal x)).run Tryz.prog w=.ok () w:=by
 have u1:=Tryz.underlying3;have u2:=Tryz.underlying9;have u3:=Tryz.underlying57;have a1:=Tryz.isAgg3;have a2:=Tryz.isAgg9;simp only [Instr.checkKey,run_underlying u3,Sem.run_bind,Result.andThen_ok]
 simp [run_underlying u1,run_underlying u2]
 go_simp
theorem sameVt (x:Vt):Instr.sameBits 10000 (vtVal x) (vtVal x)=true:=by
 show (true && (Instr.sameBits 9999 (.int .i64 x.k) (.int .i64 x.k) && (Instr.sameBits 9999 (.string x.t) (.string x.t) && (Instr.sameBits 9999 (.int .i64 x.n) (.int .i64 x.n) && true))))=true;simp only [Instr.sameBits,beq_self_eq_true,Bool.true_and,Bool.and_true]
 show (x.t.data==x.t.data)=true;exact beq_self_eq_true _
theorem askVt_run (x:Vt):∀ (es:List MapEntry) (L:List Vt) (i:Nat) (w:World),es.map MapEntry.key=L.map vtVal→∃ r,(Instr.findAsking 57 (vtVal x) es i).run Tryz.prog w=.ok r w∧((x ∉ L∧r=none)∨∃ j e,es[j]? =some e∧L[j]? =some x∧r=some (i + j,e.val))
 | [],L,i,w,h=>by
  cases L with
  | nil=>exact ⟨none,by simp [Instr.findAsking],.inl ⟨by simp,rfl⟩⟩
  | cons p r=>simp at h
 | e::es,[],i,w,h=>by simp at h
 | e::es,p::r,i,w,h=>by
  simp only [List.map_cons,List.cons.injEq] at h
  obtain ⟨h1,h3⟩:=h;have hq:=eqVt_run x p w;by_cases hx:x=p
  ·refine ⟨some (i,e.val),?_,.inr ⟨0,e,rfl,by simp [hx],rfl⟩⟩;rw [decide_eq_true hx] at hq;simp [Instr.findAsking,h1,hq]
  ·rw [decide_eq_false hx] at hq;obtain ⟨r',hr,hc⟩:=askVt_run x es r (i + 1) w h3;refine ⟨r',by simp [Instr.findAsking,h1,hq,hr],?_⟩;rcases hc with ⟨h4,h5⟩ | ⟨j,e',h4,h5,h6⟩
   ·exact .inl ⟨by simp [hx,h4],h5⟩
   ·exact .inr ⟨j + 1,e',by simpa using h4,by simpa using h5,by rw [h6,show i + (j + 1)=i + 1 + j by omega]⟩
set_option maxRecDepth 100000 in
def keyVt:KeyL Vt where
 kv:=vtVal
 ty:=57
 chk b x w:=chkVt_n x b 9998 w
 same:=sameVt
 find x es L w h:=by
  have e:=run_findKey_eq (P:=Tryz.prog) (w:=w) (k:=57) (by kernel_rfl) (vtVal x) es;obtain ⟨r,hr,hc⟩:=askVt_run x es L 0 w h;refine ⟨r,by rw [e];exact hr,?_⟩;rcases hc with h1 | ⟨j,e',h4,h5,h6⟩
  ·exact .inl h1
  ·exact .inr ⟨j,e',h4,h5,by rw [h6,Nat.zero_add]⟩
end
end Go.Proofs.YtfdcgedcfafmcaaGreatDoor
