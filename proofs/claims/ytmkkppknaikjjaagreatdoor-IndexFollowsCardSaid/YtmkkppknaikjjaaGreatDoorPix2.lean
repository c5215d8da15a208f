/- Several texts in one: IdxSrt, IdxF, EqIds, EqPsn, IdxCl. -/
import Derived.Test.YtmkkppknaikjjaaGreatDoorPixS
import Derived.Test.YtmkkppknaikjjaaGreatDoorPix1
import Derived.Test.YtmkkppknaikjjaaGreatDoorPixQ
import Derived.Test.YtmkkppknaikjjaaGreatDoorSfix
import Derived.Test.YtmkkppknaikjjaaGreatDoorPixX
import Derived.Test.YtmkkppknaikjjaaGreatDoorPixW
import Derived.Test.YtmkkppknaikjjaaGreatDoorPixN
import Derived.Test.YtmkkppknaikjjaaGreatDoorPixR
import Derived.Test.YtmkkppknaikjjaaGreatDoorPixI
/- slices.SortFunc of touches by their numbers, as the law IndexFollows calls it; the closures of that law. -/
namespace Go.Proofs.YtmkkppknaikjjaaGreatDoor
section
open Go Go.RowKit
def subNo (a b:TQ):Int:=a.t.no - b.t.no
def cmpTq (a b:TQ):Int:=Lib.compareInt a.t.no b.t.no
theorem cmpTq_ok:CmpOk cmpTq:=⟨fun a b=>cmpOkI.anti a.t.no b.t.no,fun a b d=>cmpOkI.trans a.t.no b.t.no d.t.no⟩
theorem subNo_lt (a b:TQ):subNo a b < 0 ↔ cmpTq a b < 0:=by
 unfold subNo cmpTq Lib.compareInt;split
 ·omega
 ·split <;> omega
theorem cmpTq_le {a b:TQ}(h:cmpTq a b≤0):a.t.no≤b.t.no:=by
 unfold cmpTq Lib.compareInt at h;split at h
 ·omega
 ·split at h <;> omega
abbrev NoIn (q:TQ):Prop:=0≤q.t.no∧q.t.no≤1000000
theorem subNo_any (a b:TQ)(ha:NoIn a)(hb:NoIn b)(w:World):Calls Tryz.prog 30 #[.agg (tqCs a),.agg (tqCs b)] w fun e w'=>e=.returned (.int .i64 (subNo a b))∧Grew w w':=by
 obtain ⟨X,hX⟩:∃ X,X=w.heap.size:=⟨_,rfl⟩;have S1:=(Mem.start w).newAt (tqCs a) 58 X hX;have S:Mem w _ [.loc X (tqCs a) 58,.loc (X + 1) (tqCs b) 58]:=S1.newAt (tqCs b) 58 (X + 1) (by rw [hX,World.size_alloc]);have Hg:Hid (Grew w ((w.alloc (.cells (tqCs a) 58)).alloc (.cells (tqCs b) 58))):=((Grew.refl _).alloc _).alloc _;have hw:IntKind.i64.wrap (a.t.no - b.t.no)=subNo a b:=by rw [IntKind.wrap_i64];unfold subNo;omega
 clear S1;go_enter Tryz.func30,Tryz.ntmps30
 go_upto_region 1 with fail
 rw [← hX];clear hX;generalize (w.alloc (.cells (tqCs a) 58)).alloc (.cells (tqCs b) 58)=w2 at *;have l0:=(S.lv 0 rfl).all;have l1:=(S.lv 1 rfl).all;go_wp2_with fail
 go_ret;exact ⟨rfl,Hg.out⟩
theorem sortTq_any {w0 w:World}{cs:List Chunk}(S:Mem w0 w cs)(i:Nat){B:Nat}{v:Value}{xs:List TQ}(hi:cs[i]? =some (.own rTQ B 58 v xs))(hp:∀ q∈xs,NoIn q)(hl:xs.length≤1000000) :
  Calls Tryz.prog 29 #[v,.func (.func 30) #[] #[]] w (GivesSorted rTQ cmpTq w0 cs i B 58 v xs) :=
 haveI:Inhabited TQ:=⟨⟨⟨0,0,⟨#[]⟩,[],[]⟩,none,0,none,0⟩⟩
 sortFn_own flatTQ (by decide) (fun _=>rfl) oneTQ Tryz.laysSf29 Tryz.isAgg58 Tryz.sizeOf58 NoIn subNo cmpTq cmpTq_ok subNo_lt 30 (enters_of Tryz.func30 (by kernel_rfl) rfl) (fun a b ha hb w=>subNo_any a b ha hb w) S i hi hp hl
end
section
open Go Go.RowKit
def GivesIF {α:Type}(P:α→Bool)(xs:List α)(w:World)(e:Ending)(w':World):Prop :=
 ∃ i:Int,e=.returned (.int .i64 i)∧Below w.heap.size w w'∧((i=-1∧∀ y∈xs,P y=false)∨∃ (j:Nat) (y:α),i=j∧xs[j]? =some y∧P y=true∧∀ z∈xs.take j,P z=false)
theorem Sl.psq {N:Nat→Prop}{w:World}{A:Option Addr}{xs:List PsQ}(h:Sl rPsQ N w A xs)(k:Nat)(x:PsQ)(hk:xs[k]? =some x):∃ blk off,A=some ⟨blk,off,none⟩∧blk < w.heap.size ∧
  w.cell? ⟨blk,off + k * 4,none⟩=some (.int .i64 x.p.key.k)∧w.cell? ⟨blk,off + k * 4 + 1,none⟩=some (.string x.p.key.t)∧w.cell? ⟨blk,off + k * 4 + 2,none⟩=some (.slice x.A x.p.tch.length x.a)∧w.cell? ⟨blk,off + k * 4 + 3,none⟩=some (.slice x.B x.p.ids.length x.b):=by
 obtain ⟨blk,off,l,e,h1,_,h3,h4⟩:=h k x hk;obtain rfl:l=PsQ.cells x:=h3;exact ⟨blk,off,e,h1,h4 0 _ rfl,h4 1 _ rfl,h4 2 _ rfl,h4 3 _ rfl⟩
set_option maxHeartbeats 4000000 in
set_option maxRecDepth 100000 in
theorem idxFP_any (f:Nat)(caps:Array Value)(ef:∀ args w,(callFunc f args).run Tryz.prog w=.ok (.enter f args) w)(P:PsQ→Bool)(N:Nat→Prop)(A:Option Addr)(c:Nat)(xs:List PsQ)(w:World)(hS:Sl rPsQ N w A xs)(hl:xs.length≤1000000)
  (hf:∀ y∈xs,∀ w',Below w.heap.size w w'→Calls Tryz.prog f (#[.agg (psCs y.p y.A y.a y.B y.b)]++caps) w' fun e w''=>e=.returned (.bool (P y))∧Below w'.heap.size w' w'') :
  Calls Tryz.prog 35 #[.slice A xs.length c,.func (.func f) #[] caps] w (GivesIF P xs w):=by
 have HF:=Lib.hid hf;have HS:=Lib.hid (fun w' (h:Below w.heap.size w w')=>hS.keepB h);clear hf hS;go_enter Tryz.func35,Tryz.ntmps35
 go_wp2_with fail
 go_loopw [8] (fun i wr=>∃ j:Nat,j≤xs.length∧i=.int .i64 j∧Hid (∀ z∈xs.take j,P z=false)∧Below w.heap.size w wr) (fun i _=>xs.length - (intOf i).toNat)
 case atStart=>exact ⟨0,Nat.zero_le _,rfl,(by show ∀ z∈_,_;simp),Below.refl _ _⟩
 case round =>
  obtain ⟨j,hj,rfl,HP,hb⟩:=hrel;by_cases hlt:j < xs.length
  ·obtain ⟨x,hx⟩:∃ x,xs[j]? =some x:=⟨_,List.getElem?_eq_getElem hlt⟩;obtain ⟨b1,o1,rfl,hb1,d0,d1,d2,d3⟩:=(HS.out wr hb).psq j x hx;have Hx:=Lib.hid hx;clear hx;go_wp2_with fail
   refine (HF.out x (List.mem_of_getElem? Hx.out) wr hb).mono ?_;rintro e w2 ⟨rfl,hl2⟩;have hb2:=hb.trans (hl2.mono hb.size);clear hl2 d0 d1 d2 d3 hb;cases hp:P x with
   | false =>
    have HP2:Hid (∀ z∈xs.take (j + 1),P z=false):=fun z hz=>by
     rw [take_snoc Hx.out] at hz;rcases List.mem_append.1 hz with hz | hz
     ·exact HP.out z hz
     ·rw [List.mem_singleton.1 hz];exact hp
    clear hp;go_wp2_with fail
    go_roundw
    case rel=>exact ⟨j + 1,by omega,by go_num,HP2,hb2⟩
    case measure=>simp [intOf];omega
   | true =>
    have Hp:=Lib.hid hp;clear hp;go_wp2_with fail
    go_ret;exact ⟨j,rfl,hb2,.inr ⟨j,x,rfl,Hx.out,Hp.out,HP.out⟩⟩
  ·have HP2:Hid (∀ z∈xs,P z=false):=by
    have h1:=HP.out;rw [List.take_of_length_le (by omega)] at h1;exact h1
   go_wp2_with fail
   go_ret;exact ⟨-1,rfl,hb,.inl ⟨rfl,HP2.out⟩⟩
end
section
open Go Go.RowKit
set_option maxHeartbeats 4000000 in
set_option maxRecDepth 100000 in
theorem eqId_any (N:Nat→Prop)(A A2:Option Addr)(xs:List IdV)(c c2:Nat)(w:World)(h1:Sl rId N w A xs)(h2:Sl rId N w A2 xs)(hl:xs.length≤1000000000) :
  Calls Tryz.prog 108 #[.slice A xs.length c,.slice A2 xs.length c2] w fun e w'=>e=.returned (.bool true)∧Below w.heap.size w w':=by
 have H1:=Lib.hid h1;have H2:=Lib.hid h2;clear h1 h2;go_enter Tryz.func108,Tryz.ntmps108
 go_wp2_with fail
 go_loopw [13] (fun i wr=>∃ j:Nat,j≤xs.length∧i=.int .i64 j∧Below w.heap.size w wr) (fun i _=>xs.length - (intOf i).toNat)
 case atStart=>exact ⟨0,Nat.zero_le _,rfl,Below.refl _ _⟩
 case round =>
  obtain ⟨j,hj,rfl,hb⟩:=hrel;by_cases hlt:j < xs.length
  ·obtain ⟨e,hf⟩:∃ e,xs[j]? =some e:=⟨_,List.getElem?_eq_getElem hlt⟩;obtain ⟨b1,o1,rfl,_,c0,c1⟩:=(H1.out.keepB hb).idv j e hf;obtain ⟨b2,o2,rfl,_,d0,d1⟩:=(H2.out.keepB hb).idv j e hf;clear hf;go_wp2_with fail
   go_quiet (fail)
   go_wp2_with fail
   go_roundw
   case rel=>exact ⟨j + 1,by omega,by go_num,hb.trans (below_drewN _ _ _)⟩
   case measure=>simp [intOf];omega
  ·go_wp2_with fail
   go_ret;exact ⟨rfl,hb⟩
set_option maxHeartbeats 4000000 in
set_option maxRecDepth 100000 in
theorem samePerson_any (N:Nat→Prop)(p:Psn)(A A2:Option Addr)(a a2:Nat)(B B2:Option Addr)(b b2:Nat)(w:World)(h1:Sl rInt N w A p.tch)(h2:Sl rInt N w A2 p.tch)(g1:Sl rId N w B p.ids)(g2:Sl rId N w B2 p.ids)(hl:p.tch.length≤1000000)(gl:p.ids.length≤1000000) :
  Calls Tryz.prog 39 #[.agg (psCs p A a B b),.agg (psCs p A2 a2 B2 b2)] w fun e w'=>e=.returned (.bool true)∧Below w.heap.size w w':=by
 have Hc1:=Lib.hid (fun w' (h:Below w.heap.size w w')=>eqInt_any N A A2 p.tch a a2 w' (h1.keepB h) (h2.keepB h) (by omega));have Hc2:=Lib.hid (fun w' (h:Below w.heap.size w w')=>eqId_any N B B2 p.ids b b2 w' (g1.keepB h) (g2.keepB h) (by omega));obtain ⟨X,hX⟩:∃ X,X=w.heap.size:=⟨_,rfl⟩;have S1:=(Mem.start w).newAt (psCs p A a B b) 80 X hX;have S:Mem w _ [.loc X (psCs p A a B b) 80,.loc (X + 1) (psCs p A2 a2 B2 b2) 80]:=S1.newAt (psCs p A2 a2 B2 b2) 80 (X + 1) (by rw [hX,World.size_alloc]);clear S1 h1 h2 g1 g2;go_enter Tryz.func39,Tryz.ntmps39
 go_upto_region 1 with fail
 rw [← hX];clear hX;generalize (w.alloc (.cells (psCs p A a B b) 80)).alloc (.cells (psCs p A2 a2 B2 b2) 80)=w2 at *;have l0:=(S.lv 0 rfl).all;have l1:=(S.lv 1 rfl).all;go_wp2_with fail
 refine (Hc1.out _ S.b).mono ?_;rintro e w3 ⟨rfl,hb3⟩;replace S:=S.below hb3;clear l0 l1 hb3;have l0:=(S.lv 0 rfl).all;have l1:=(S.lv 1 rfl).all;go_wp2_with fail
 refine (Hc2.out _ S.b).mono ?_;rintro e w4 ⟨rfl,hb4⟩;replace S:=S.below hb4;go_wp2_with fail
 go_ret;exact ⟨rfl,S.b⟩
end
section
open Go Go.RowKit
set_option maxHeartbeats 4000000 in
set_option maxRecDepth 100000 in
theorem eqPersons_any (N:Nat→Prop)(P:List Psn)(A A2:Option Addr)(c c2:Nat)(w:World)(h1:Sl rPsn N w A P)(h2:Sl rPsn N w A2 P)(hl:P.length≤1000000)(hs:∀ p∈P,p.tch.length≤1000000∧p.ids.length≤1000000) :
  Calls Tryz.prog 43 #[.slice A P.length c,.slice A2 P.length c2,.func (.func 39) #[] #[]] w fun e w'=>e=.returned (.bool true)∧Below w.heap.size w w':=by
 have H1:=Lib.hid h1;have H2:=Lib.hid h2;have Hs:=Lib.hid hs;clear h1 h2 hs;go_enter Tryz.func43,Tryz.ntmps43
 go_wp2_with fail
 go_loopw [17] (fun i wr=>∃ j:Nat,j≤P.length∧i=.int .i64 j∧Below w.heap.size w wr) (fun i _=>P.length - (intOf i).toNat)
 case atStart=>exact ⟨0,Nat.zero_le _,rfl,Below.refl _ _⟩
 case round =>
  obtain ⟨j,hj,rfl,hb⟩:=hrel;by_cases hlt:j < P.length
  ·obtain ⟨p,hp⟩:∃ p,P[j]? =some p:=⟨_,List.getElem?_eq_getElem hlt⟩;obtain ⟨b1,o1,At,at',Ai,ai,rfl,hb1,c0,c1,c2,c3,s1,s2⟩:=(H1.out.keepB hb).psn j p hp;obtain ⟨b2,o2,Bt,bt,Bi,bi,rfl,hb2,d0,d1,d2,d3,s3,s4⟩:=(H2.out.keepB hb).psn j p hp;have hps:=Hs.out p (List.mem_of_getElem? hp);have Hc:=Lib.hid (fun w' (h:Below wr.heap.size wr w')=>samePerson_any N p At Bt at' bt Ai Bi ai bi w' (s1.keepB h) (s3.keepB h) (s2.keepB h) (s4.keepB h) hps.1 hps.2);clear hp s1 s2 s3 s4 hps;obtain ⟨X,hX⟩:∃ X,X=wr.heap.size:=⟨_,rfl⟩;have S1:=(Mem.start wr).newAt (psCs p At at' Ai ai) 80 X hX;go_upto_region 6 with fail
   have S:Mem wr _ [.loc X (psCs p At at' Ai ai) 80,.loc (X + 1) (psCs p Bt bt Bi bi) 80]:=S1.newAt (psCs p Bt bt Bi bi) 80 (X + 1) (by rw [hX,World.size_alloc]);go_upto_region 7 with fail
   rw [← hX];clear hX S1 c0 c1 c2 c3 d0 d1 d2 d3;generalize (wr.alloc (.cells (psCs p At at' Ai ai) 80)).alloc (.cells (psCs p Bt bt Bi bi) 80)=w2 at *;have l0:=(S.lv 0 rfl).all;have l1:=(S.lv 1 rfl).all;go_wp2_with fail
   refine (Hc.out _ S.b).mono ?_;rintro e w3 ⟨rfl,hb3⟩;replace S:=S.below hb3;have hbb:Below w.heap.size w w3:=hb.trans (S.b.mono hb.size);clear l0 l1 hb3 S;go_wp2_with fail
   go_roundw
   case rel=>exact ⟨j + 1,by omega,by go_num,hbb⟩
   case measure=>simp [intOf];omega
  ·go_wp2_with fail
   go_ret;exact ⟨rfl,hb⟩
end
section
open Go Go.RowKit
set_option maxHeartbeats 4000000 in
set_option maxRecDepth 100000 in
theorem sameTouch_any (N:Nat→Prop)(p:Tch)(A A2:Option Addr)(a a2:Nat)(B B2:Option Addr)(b b2:Nat)(w:World)(h1:Sl rId N w A p.ids)(h2:Sl rId N w A2 p.ids)(g1:Sl rFld N w B p.flds)(g2:Sl rFld N w B2 p.flds)(hl:p.ids.length≤1000000)(gl:p.flds.length≤1000000) :
  Calls Tryz.prog 42 #[.agg (tcCs p A a B b),.agg (tcCs p A2 a2 B2 b2)] w fun e w'=>e=.returned (.bool true)∧Below w.heap.size w w':=by
 have Hc1:=Lib.hid (fun w' (h:Below w.heap.size w w')=>eqId_any N A A2 p.ids a a2 w' (h1.keepB h) (h2.keepB h) (by omega));have Hc2:=Lib.hid (fun w' (h:Below w.heap.size w w')=>eqFld_any N B B2 p.flds b b2 w' (g1.keepB h) (g2.keepB h) (by omega));obtain ⟨X,hX⟩:∃ X,X=w.heap.size:=⟨_,rfl⟩;have S1:=(Mem.start w).newAt (tcCs p A a B b) 58 X hX;have S:Mem w _ [.loc X (tcCs p A a B b) 58,.loc (X + 1) (tcCs p A2 a2 B2 b2) 58]:=S1.newAt (tcCs p A2 a2 B2 b2) 58 (X + 1) (by rw [hX,World.size_alloc]);clear S1 h1 h2 g1 g2;go_enter Tryz.func42,Tryz.ntmps42
 go_upto_region 1 with fail
 rw [← hX];clear hX;generalize (w.alloc (.cells (tcCs p A a B b) 58)).alloc (.cells (tcCs p A2 a2 B2 b2) 58)=w2 at *;have l0:=(S.lv 0 rfl).all;have l1:=(S.lv 1 rfl).all;go_wp2_with fail
 refine (Hc1.out _ S.b).mono ?_;rintro e w3 ⟨rfl,hb3⟩;replace S:=S.below hb3;clear l0 l1 hb3;have l0:=(S.lv 0 rfl).all;have l1:=(S.lv 1 rfl).all;go_wp2_with fail
 refine (Hc2.out _ S.b).mono ?_;rintro e w4 ⟨rfl,hb4⟩;replace S:=S.below hb4;go_wp2_with fail
 go_ret;exact ⟨rfl,S.b⟩
set_option maxHeartbeats 4000000 in
set_option maxRecDepth 100000 in
theorem eqTouches_any (N:Nat→Prop)(P:List Tch)(A A2:Option Addr)(c c2:Nat)(w:World)(h1:Sl rTch N w A P)(h2:Sl rTch N w A2 P)(hl:P.length≤1000000)(hs:∀ p∈P,p.ids.length≤1000000∧p.flds.length≤1000000) :
  Calls Tryz.prog 40 #[.slice A P.length c,.slice A2 P.length c2,.func (.func 42) #[] #[]] w fun e w'=>e=.returned (.bool true)∧Below w.heap.size w w':=by
 have H1:=Lib.hid h1;have H2:=Lib.hid h2;have Hs:=Lib.hid hs;clear h1 h2 hs;go_enter Tryz.func40,Tryz.ntmps40
 go_wp2_with fail
 go_loopw [17] (fun i wr=>∃ j:Nat,j≤P.length∧i=.int .i64 j∧Below w.heap.size w wr) (fun i _=>P.length - (intOf i).toNat)
 case atStart=>exact ⟨0,Nat.zero_le _,rfl,Below.refl _ _⟩
 case round =>
  obtain ⟨j,hj,rfl,hb⟩:=hrel;by_cases hlt:j < P.length
  ·obtain ⟨p,hp⟩:∃ p,P[j]? =some p:=⟨_,List.getElem?_eq_getElem hlt⟩;obtain ⟨b1,o1,At,at',Ai,ai,rfl,hb1,c0,c1,c2,c3,c4,s1,s2⟩:=(H1.out.keepB hb).tch j p hp;obtain ⟨b2,o2,Bt,bt,Bi,bi,rfl,hb2,d0,d1,d2,d3,d4,s3,s4⟩:=(H2.out.keepB hb).tch j p hp;have hps:=Hs.out p (List.mem_of_getElem? hp);have Hc:=Lib.hid (fun w' (h:Below wr.heap.size wr w')=>sameTouch_any N p At Bt at' bt Ai Bi ai bi w' (s1.keepB h) (s3.keepB h) (s2.keepB h) (s4.keepB h) hps.1 hps.2);clear hp s1 s2 s3 s4 hps;obtain ⟨X,hX⟩:∃ X,X=wr.heap.size:=⟨_,rfl⟩;have S1:=(Mem.start wr).newAt (tcCs p At at' Ai ai) 58 X hX;go_upto_region 6 with fail
   have S:Mem wr _ [.loc X (tcCs p At at' Ai ai) 58,.loc (X + 1) (tcCs p Bt bt Bi bi) 58]:=S1.newAt (tcCs p Bt bt Bi bi) 58 (X + 1) (by rw [hX,World.size_alloc]);go_upto_region 7 with fail
   rw [← hX];clear hX S1 c0 c1 c2 c3 c4 d0 d1 d2 d3 d4;generalize (wr.alloc (.cells (tcCs p At at' Ai ai) 58)).alloc (.cells (tcCs p Bt bt Bi bi) 58)=w2 at *;have l0:=(S.lv 0 rfl).all;have l1:=(S.lv 1 rfl).all;go_wp2_with fail
   refine (Hc.out _ S.b).mono ?_;rintro e w3 ⟨rfl,hb3⟩;replace S:=S.below hb3;have hbb:Below w.heap.size w w3:=hb.trans (S.b.mono hb.size);clear l0 l1 hb3 S;go_wp2_with fail
   go_roundw
   case rel=>exact ⟨j + 1,by omega,by go_num,hbb⟩
   case measure=>simp [intOf];omega
  ·go_wp2_with fail
   go_ret;exact ⟨rfl,hb⟩
theorem Sl.tqs {N:Nat→Prop}{w:World}{A:Option Addr}{xs:List TQ}(h:Sl rTQ N w A xs)(k:Nat)(x:TQ)(hk:xs[k]? =some x):∃ blk off,A=some ⟨blk,off,none⟩∧blk < w.heap.size ∧
  w.cell? ⟨blk,off + k * 5,none⟩=some (.int .i64 x.t.no)∧w.cell? ⟨blk,off + k * 5 + 1,none⟩=some (.int .i64 x.t.at')∧w.cell? ⟨blk,off + k * 5 + 2,none⟩=some (.string x.t.src)∧w.cell? ⟨blk,off + k * 5 + 3,none⟩=some (.slice x.A x.t.ids.length x.c)∧w.cell? ⟨blk,off + k * 5 + 4,none⟩=some (.slice x.B x.t.flds.length x.d):=by
 obtain ⟨blk,off,l,e,h1,_,h3,h4⟩:=h k x hk;obtain rfl:l=TQ.cells x:=h3;exact ⟨blk,off,e,h1,h4 0 _ rfl,h4 1 _ rfl,h4 2 _ rfl,h4 3 _ rfl,h4 4 _ rfl⟩
set_option maxHeartbeats 4000000 in
set_option maxRecDepth 100000 in
theorem idxFT_any (f:Nat)(caps:Array Value)(ef:∀ args w,(callFunc f args).run Tryz.prog w=.ok (.enter f args) w)(P:TQ→Bool)(N:Nat→Prop)(A:Option Addr)(c:Nat)(xs:List TQ)(w:World)(hS:Sl rTQ N w A xs)(hl:xs.length≤1000000)
  (hf:∀ y∈xs,∀ w',Below w.heap.size w w'→Calls Tryz.prog f (#[.agg (tqCs y)]++caps) w' fun e w''=>e=.returned (.bool (P y))∧Below w'.heap.size w' w'') :
  Calls Tryz.prog 19 #[.slice A xs.length c,.func (.func f) #[] caps] w (GivesIF P xs w):=by
 have HF:=Lib.hid hf;have HS:=Lib.hid (fun w' (h:Below w.heap.size w w')=>hS.keepB h);clear hf hS;go_enter Tryz.func19,Tryz.ntmps19
 go_wp2_with fail
 go_loopw [8] (fun i wr=>∃ j:Nat,j≤xs.length∧i=.int .i64 j∧Hid (∀ z∈xs.take j,P z=false)∧Below w.heap.size w wr) (fun i _=>xs.length - (intOf i).toNat)
 case atStart=>exact ⟨0,Nat.zero_le _,rfl,(by show ∀ z∈_,_;simp),Below.refl _ _⟩
 case round =>
  obtain ⟨j,hj,rfl,HP,hb⟩:=hrel;by_cases hlt:j < xs.length
  ·obtain ⟨x,hx⟩:∃ x,xs[j]? =some x:=⟨_,List.getElem?_eq_getElem hlt⟩;obtain ⟨b1,o1,rfl,hb1,d0,d1,d2,d3,d4⟩:=(HS.out wr hb).tqs j x hx;have Hx:=Lib.hid hx;clear hx;go_wp2_with fail
   refine (HF.out x (List.mem_of_getElem? Hx.out) wr hb).mono ?_;rintro e w2 ⟨rfl,hl2⟩;have hb2:=hb.trans (hl2.mono hb.size);clear hl2 d0 d1 d2 d3 d4 hb;cases hp:P x with
   | false =>
    have HP2:Hid (∀ z∈xs.take (j + 1),P z=false):=fun z hz=>by
     rw [take_snoc Hx.out] at hz;rcases List.mem_append.1 hz with hz | hz
     ·exact HP.out z hz
     ·rw [List.mem_singleton.1 hz];exact hp
    clear hp;go_wp2_with fail
    go_roundw
    case rel=>exact ⟨j + 1,by omega,by go_num,HP2,hb2⟩
    case measure=>simp [intOf];omega
   | true =>
    have Hp:=Lib.hid hp;clear hp;go_wp2_with fail
    go_ret;exact ⟨j,rfl,hb2,.inr ⟨j,x,rfl,Hx.out,Hp.out,HP.out⟩⟩
  ·have HP2:Hid (∀ z∈xs,P z=false):=by
    have h1:=HP.out;rw [List.take_of_length_le (by omega)] at h1;exact h1
   go_wp2_with fail
   go_ret;exact ⟨-1,rfl,hb,.inl ⟨rfl,HP2.out⟩⟩
theorem isNo_any (y:TQ)(Z:Nat)(no:Int)(w:World)(hZ:LV w Z #[.int .i64 no] 3):Calls Tryz.prog 20 #[.agg (tqCs y),.pointer (some ⟨Z,0,none⟩)] w fun e w'=>e=.returned (.bool (y.t.no==no))∧Below w.heap.size w w':=by
 obtain ⟨X,hX⟩:∃ X,X=w.heap.size:=⟨_,rfl⟩;have S:Mem w _ [.loc X (tqCs y) 58]:=(Mem.start w).newAt (tqCs y) 58 X hX;have z0:(w.alloc (.cells (tqCs y) 58)).cell? ⟨Z,0,none⟩=some (.int .i64 no):=LV.cell ((S.b.block Z hZ.lt).trans hZ) 0 _ rfl;clear hZ;go_enter Tryz.func20,Tryz.ntmps20
 go_upto_region 1 with fail
 rw [← hX];clear hX;generalize w.alloc (.cells (tqCs y) 58)=w2 at *;have l0:=(S.lv 0 rfl).all;go_wp2_with fail
 go_ret;exact ⟨rfl,S.b⟩
theorem place_any (A:Option Addr)(c T:Nat)(us:List TQ)(no:Int)(w:World)(hT:LV w T #[.slice A us.length c] 30)(hS:Sl rTQ (fun _=>False) w A us)(hl:us.length≤1000000) :
  Calls Tryz.prog 18 #[.int .i64 no,.pointer (some ⟨T,0,none⟩)] w (GivesIF (fun q:TQ=>q.t.no==no) us w):=by
 obtain ⟨X,hX⟩:∃ X,X=w.heap.size:=⟨_,rfl⟩;have S:Mem w _ [.loc X #[.int .i64 no] 3]:=(Mem.start w).newAt #[.int .i64 no] 3 X hX;have t0:(w.alloc (.cells #[.int .i64 no] 3)).cell? ⟨T,0,none⟩=some (.slice A us.length c):=LV.cell ((S.b.block T hT.lt).trans hT) 0 _ rfl;have HS:=Lib.hid (fun w' (h:Below w.heap.size w w')=>hS.keepB h);clear hS hT;go_enter Tryz.func18,Tryz.ntmps18
 go_upto_region 1 with fail
 rw [← hX];clear hX;generalize w.alloc (.cells #[.int .i64 no] 3)=w2 at *;have Hi:=Lib.hid (idxFT_any 20 #[.pointer (some ⟨X,0,none⟩)] (enters_of Tryz.func20 (by kernel_rfl) rfl) (fun q=>q.t.no==no) (fun _=>False) A c us w2 (HS.out w2 S.b) hl (fun y _ w' h=>isNo_any y X no w' ((h.block X (S.lv 0 rfl).lt).trans (S.lv 0 rfl))));have Hb:=Lib.hid S.b;clear S;go_wp2_with fail
 refine (Hi.out).mono ?_;rintro e w3 ⟨i,rfl,hb,hc⟩;have Hc:=Lib.hid hc;have Hb3:=Lib.hid (Hb.out.trans (hb.mono Hb.out.size));clear hc hb Hi;go_wp2_with fail
 go_ret;exact ⟨i,rfl,Hb3.out,Hc.out⟩
theorem hasId_any9 (q:PsQ)(V:Nat)(x:IdV)(w:World)(hV:LV w V #[.int .i64 x.k,.string x.t] 46)(hS:Sl rId (fun _=>False) w q.B q.p.ids)(hl:q.p.ids.length≤1000000)(hx:x.t.size≤1000000)(hM:MaxL w) :
  Calls Tryz.prog 36 #[.agg (psCs q.p q.A q.a q.B q.b),.pointer (some ⟨V,0,none⟩)] w fun e w'=>e=.returned (.bool (decide (L.idFault x.k x.t=0) && decide (x∈q.p.ids)))∧Below w.heap.size w w':=by
 obtain ⟨X,hX⟩:∃ X,X=w.heap.size:=⟨_,rfl⟩;have S:Mem w _ [.loc X (psCs q.p q.A q.a q.B q.b) 80]:=(Mem.start w).newAt (psCs q.p q.A q.a q.B q.b) 80 X hX;have HV:Hid (∀ w',Below w.heap.size w w'→LV w' V #[.int .i64 x.k,.string x.t] 46):=fun w' h=>(h.block V hV.lt).trans hV;have Hf:=Lib.hid (fun w' (h:Below w.heap.size w w')=>refId_any x.k x.t w' hx (hM.below h));have Hc:=Lib.hid (fun w' (h:Below w.heap.size w w')=>containsId_any (fun _=>False) q.B q.p.ids q.b x w' (hS.keepB h) hl);obtain ⟨F,hF⟩:∃ F,L.idFault x.k x.t=F:=⟨_,rfl⟩;rw [hF] at Hf ⊢;obtain ⟨D,hD⟩:∃ D,decide (x∈q.p.ids)=D:=⟨_,rfl⟩;rw [hD] at Hc ⊢;clear hV hS hM hF hD;go_enter Tryz.func36,Tryz.ntmps36
 go_upto_region 1 with fail
 rw [← hX];clear hX;generalize w.alloc (.cells (psCs q.p q.A q.a q.B q.b) 80)=w2 at *;have v0:=(HV.out w2 S.b).all;go_wp2_with fail
 refine (Hf.out w2 S.b).mono ?_;rintro e w3 ⟨rfl,hb⟩;replace S:=S.below hb;clear v0 hb Hf;by_cases hE:F=0
 ·subst hE;have v0:=(HV.out w3 S.b).all;have l0:=(S.lv 0 rfl).all;go_wp2_with fail
  refine (Hc.out w3 S.b).mono ?_;rintro e w4 ⟨rfl,hb⟩;have HS:=Lib.hid (S.below hb).b;clear v0 l0 hb S Hc;go_wp2_with fail
  go_ret;exact ⟨by simp,HS.out⟩
 ·have Hb:=Lib.hid S.b;have Hz:Hid (decide (F=0)=false):=decide_eq_false hE;clear S;go_wp2_with fail
  go_ret;exact ⟨by rw [Hz.out];rfl,Hb.out⟩
end
end Go.Proofs.YtmkkppknaikjjaaGreatDoor
