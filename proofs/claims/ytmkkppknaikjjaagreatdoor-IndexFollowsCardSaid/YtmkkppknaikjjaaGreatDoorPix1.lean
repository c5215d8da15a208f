/- Several texts in one: IdxPer, IdxOut. -/
import Derived.Test.YtmkkppknaikjjaaGreatDoorPixS
import Derived.Test.YtmkkppknaikjjaaGreatDoorPixD
import Derived.Test.YtmkkppknaikjjaaGreatDoorPixF
/- person.New, and (*Index).Person. -/
namespace Go.Proofs.YtmkkppknaikjjaaGreatDoor
section
open Go Go.RowKit
def GivesNew (r:Rul)(w:World)(e:Ending)(w':World):Prop :=
 (rulFault r≠0∧e=.returned (.tuple #[.pointer none,.int .i64 (rulFault r)])∧Below w.heap.size w w') ∨
 (rulFault r=0∧∃ (X:Nat) (K:Option Addr) (ck:Nat) (W:Option Addr) (cw:Nat) (S:Option Addr) (cs:Nat),e=.returned (.tuple #[.pointer (some ⟨X,0,none⟩),.int .i64 0])∧Mem w w' [.loc X (ixCs r K ck W cw S cs none 0 0 none 0 0) 130,.sl rInt K r.kinds,.sl rId W r.weak,.sl rSrv S r.surv])
set_option maxHeartbeats 4000000 in
set_option maxRecDepth 100000 in
theorem newIx_any (r:Rul)(K W Sv:Option Addr)(ck cw cs:Nat)(w:World)(hR:RulIn (fun _=>False) w r K W Sv)(hr:RulSm r)(hM:MaxL w) :
  Calls Tryz.prog 16 #[.agg (ruCs r K ck W cw Sv cs)] w (GivesNew r w):=by
 have Hc:=Lib.hid (fun w' (h:Below w.heap.size w w')=>checkJoin_any (fun _=>False) r K W Sv ck cw cs w' (hR.keepB h) hr.ok (hM.below h));have Hy:=Lib.hid (fun w' (h:Below w.heap.size w w')=>by
  have hR2:=hR.keepB h;exact copyR_any r K W Sv ck cw cs w' hR2.kd hR2.wk hR2.sv hr)
 obtain ⟨F,hF⟩:∃ F,rulFault r=F:=⟨_,rfl⟩;rw [hF] at Hc;have HF:=Lib.hid hF;obtain ⟨Y,hY⟩:∃ Y,Y=w.heap.size:=⟨_,rfl⟩;have T:Mem w _ [.loc Y (ruCs r K ck W cw Sv cs) 29]:=(Mem.start w).newAt (ruCs r K ck W cw Sv cs) 29 Y hY;clear hR hr hM hF;go_enter Tryz.func16,Tryz.ntmps16
 go_upto_region 1 with fail
 rw [← hY];clear hY;generalize w.alloc (.cells (ruCs r K ck W cw Sv cs) 29)=w1 at *;have y0:=(T.lv 0 rfl).all;go_wp2_with fail
 refine (Hc.out w1 T.b).mono ?_;rintro e w2 ⟨rfl,hl2⟩;have T2:=T.below hl2;clear T y0 hl2 Hc;by_cases hE:F=0
 ·subst hE;have y0:=(T2.lv 0 rfl).all;go_wp2_with fail
  refine (Hy.out w2 T2.b).mono ?_;rintro e w3 ⟨K1,ck1,W1,cw1,S1,cs1,rfl,T3⟩;have T4:=T2.join T3;clear T2 T3 y0 Hy;go_wp2_with fail
  obtain ⟨X,hX⟩:∃ X,X=w3.heap.size:=⟨_,rfl⟩;have T5:=T4.newAt (ixCs r K1 ck1 W1 cw1 S1 cs1 none 0 0 none 0 0) 130 X hX;have T6:Mem w _ [.loc X (ixCs r K1 ck1 W1 cw1 S1 cs1 none 0 0 none 0 0) 130,.sl rInt K1 r.kinds,.sl rId W1 r.weak,.sl rSrv S1 r.surv]:=(T5.del 0).front;rw [← hX];exact bodyPost_ret (results_two rfl rfl rfl) rfl (.inr ⟨HF.out,X,K1,ck1,W1,cw1,S1,cs1,rfl,T6⟩)
 ·go_wp2_with fail
  exact bodyPost_ret (results_two rfl rfl rfl) rfl (.inl ⟨fun h=>hE (HF.out.symm.trans h),by rw [HF.out];rfl,T2.b⟩)
abbrev psn0:Psn:=⟨⟨0,⟨#[]⟩⟩,[],[]⟩
def GivesPer (P:List Psn)(x:IdV)(w:World)(e:Ending)(w':World):Prop :=
 ∃ (p:Psn) (A:Option Addr) (a:Nat) (B:Option Addr) (b:Nat),e=.returned (.tuple #[.agg (psCs p A a B b),.bool (ofP P x).isSome])∧p=(ofP P x).getD psn0∧Mem w w' [.sl rInt A p.tch,.sl rId B p.ids]
theorem isOf_copy {N:Nat→Prop}{P:List Psn}{x:IdV}{w':World}{cs:Array Value}{b:Bool}(h:IsOf N P x w' cs b):∃ p A a B b',b=(ofP P x).isSome∧p=(ofP P x).getD psn0∧cs=psCs p A a B b'∧Sl rInt N w' A p.tch∧Sl rId N w' B p.ids:=by
 rcases h with ⟨h1,h2,h3⟩ | ⟨p,A,a,B,b',h1,h2,h3,h4,h5⟩
 ·exact ⟨psn0,none,0,none,0,by rw [h1,h2];rfl,by rw [h1];rfl,h3,Sl.nil,Sl.nil⟩
 ·exact ⟨p,A,a,B,b',by rw [h1,h2];rfl,by rw [h1];rfl,h3,h4,h5⟩
set_option maxHeartbeats 8000000 in
set_option maxRecDepth 100000 in
theorem person_any9 (r:Rul)(K W Sv L Pa:Option Addr)(ck cw cs n c cp X:Nat)(P:List Psn)(x:IdV)(w:World)(hX:LV w X (ixCs r K ck W cw Sv cs L n c Pa P.length cp) 130)(hS:Sl rPsn (fun _=>False) w Pa P)(hl:P.length≤1000)(hs:∀ p∈P,(p.tch.length≤1000∧p.ids.length≤1000)∧RiseI p.ids) :
  Calls Tryz.prog 34 #[.pointer (some ⟨X,0,none⟩),.agg #[.int .i64 x.k,.string x.t]] w (GivesPer P x w):=by
 have Ho:=Lib.hid (fun w' (h:Below w.heap.size w w')=>psnOf_any (fun k=>w.heap.size≤k) P Pa cp x w' ((hS.mono (fun k hk e=>by omega)).keepB h) (by omega) (fun p hp=>⟨Nat.le_trans (hs p hp).1.2 (by decide),(hs p hp).2⟩));have HX:Hid (∀ w',Below w.heap.size w w'→LV w' X (ixCs r K ck W cw Sv cs L n c Pa P.length cp) 130):=fun w' h=>(h.block X hX.lt).trans hX;have Hlen:Hid (∀ p,p=(ofP P x).getD psn0→p.tch.length≤1000∧p.ids.length≤1000):=fun p hp=>by
  cases h:ofP P x with
  | none=>rw [h] at hp;rw [hp];exact ⟨Nat.zero_le _,Nat.zero_le _⟩
  | some q=>rw [h] at hp;rw [hp];exact (hs q (List.mem_of_find?_eq_some h)).1
 clear hX hS hs;go_enter Tryz.func34,Tryz.ntmps34
 go_upto_region 1 with fail
 obtain ⟨V,hV⟩:∃ V,V=w.heap.size:=⟨_,rfl⟩;obtain ⟨R,hR⟩:∃ R,R=w.heap.size + 1:=⟨_,rfl⟩;have S:Mem w _ [.loc V #[.int .i64 x.k,.string x.t] 46,.loc R pzCs 80]:=((Mem.start w).newAt #[.int .i64 x.k,.string x.t] 46 V hV).newAt pzCs 80 R (by rw [alloc_size];exact hR);rw [← hR,← hV];clear hR hV;generalize World.alloc _ _=w1 at S ⊢;refine wp_region_mixT [10] (fun wx=>LV wx X (ixCs r K ck W cw Sv cs L n c Pa P.length cp) 130∧LV wx V #[.int .i64 x.k,.string x.t] 46) (.p 0 (.p 1 (.p 2 (.q 3 (.q 4 (.e2 5 (.p 6 (.p 7 (.p 8 (.e 9 (.b 10 (.p 11 .z)))))) 9 (.e 5 (.p 6 (.p 7 (.p 8 (.b 10 (.p 11 .z)))))))))))) (by kernel_rfl) (by kernel_rfl) (fun _ hd=>⟨HX.out _ (S.below (hd.below _)).b,(S.below (hd.below _)).lv 0 rfl⟩) (fun KK hKK wd hd=>?_);replace S:=S.below (hd.below _);clear hd;refine mpT ?_;refine mixT_loadR (.slice Pa P.length cp) rfl rfl rfl rfl (fun w' h=>loadC rfl (h.1.cell 5 _ rfl)) ?_;refine mixT_loadR (.agg #[.int .i64 x.k,.string x.t]) rfl rfl rfl rfl (fun w' h=>loadAtI (h.2.cell 0 _ rfl) (h.2.cell 1 _ rfl)) ?_;refine mixT_2 (mixT_one rfl rfl (fun K9 hK9=>?_)) (mixT_one rfl rfl (fun K9 hK9=>?_))
 ·go_wp2_with fail
  refine (Ho.out wd S.b).mono ?_;rintro e w3 ⟨cs9,b,rfl,hb,hof⟩;replace S:=S.below hb;obtain ⟨p,A,a,B,b',hb1,hp1,rfl,hA,hB⟩:=isOf_copy hof;have Hp1:=Lib.hid hp1;have Hb1:=Lib.hid hb1;have hC:=(⟨HX.out w3 S.b,S.lv 0 rfl⟩:LV w3 X (ixCs r K ck W cw Sv cs L n c Pa P.length cp) 130∧LV w3 V #[.int .i64 x.k,.string x.t] 46);have HAB:Hid (Below w.heap.size w w3∧Sl rInt (fun k=>w.heap.size≤k) w3 A p.tch∧Sl rId (fun k=>w.heap.size≤k) w3 B p.ids):=⟨S.b,hA,hB⟩;clear hb hof hA hB hp1 hb1 Ho;go_wp2_with fail
  refine ⟨hC,?_⟩;clear hC;refine mpT ?_;refine mixT_l rfl rfl (fun K9 hK9=>?_);have hsz3:w3.heap.size≤(w3.alloc (.cells pzCs 80)).heap.size:=by simp
  obtain ⟨Z,hZ⟩:∃ Z,Z=(w3).heap.size:=⟨_,rfl⟩;replace S:Mem w _ [.loc V #[.int .i64 x.k,.string x.t] 46,.loc R pzCs 80,.loc Z pzCs 80]:=S.newAt pzCs 80 Z hZ;go_wp2_with fail
  rw [← hZ];clear hZ;generalize (w3).alloc (.cells pzCs 80)=w4 at *;refine ⟨⟨HX.out w4 S.b,S.lv 0 rfl⟩,?_⟩;have Hsz3:=Lib.hid hsz3;clear hsz3;refine mixT_b rfl rfl (fun K9 hK9=>?_);have z0:=(S.lv 2 rfl).all;have S5:Mem w _ [.loc V #[.int .i64 x.k,.string x.t] 46,.loc R pzCs 80,.loc Z (psCs p A a B b') 80]:=(((S.set 2 0 (.int .i64 p.key.k) rfl).set 2 1 (.string p.key.t) rfl).set 2 2 (.slice A p.tch.length a) rfl).set 2 3 (.slice B p.ids.length b') rfl;have HS5:=Lib.hid S5;have HZ:Hid (w3.heap.size≤((((w4.setCell ⟨Z,0,none⟩ (.int .i64 p.key.k)).setCell ⟨Z,1,none⟩ (.string p.key.t)).setCell ⟨Z,2,none⟩ (.slice A p.tch.length a)).setCell ⟨Z,3,none⟩ (.slice B p.ids.length b')).heap.size):=by simp only [World.size_setCell];exact Hsz3.out
  clear S S5;go_wp2_with fail
  refine ⟨trivial,?_⟩;refine mpT ?_;refine mixT_nil ?_;simp only [Exit.then];refine hKK _ _ ?_;clear hKK KK z0;generalize (((w4.setCell ⟨Z,0,none⟩ (.int .i64 p.key.k)).setCell ⟨Z,1,none⟩ (.string p.key.t)).setCell ⟨Z,2,none⟩ (.slice A p.tch.length a)).setCell ⟨Z,3,none⟩ (.slice B p.ids.length b')=w5 at HS5 HZ ⊢;have S:=HS5.out;have HABC:Hid (Sl rInt (fun _=>False) w5 A p.tch∧Sl rId (fun _=>False) w5 B p.ids):=by
   obtain ⟨hb,hA,hB⟩:=HAB.out;have hk:SKN (fun k=>w.heap.size≤k) w3 w5:=⟨HZ.out,fun k hk hn=>(S.b.block k (Nat.lt_of_not_le hn)).trans (hb.block k (Nat.lt_of_not_le hn)).symm⟩;exact ⟨(hA.keep hk).mono (fun _ _ h=>h.elim),(hB.keep hk).mono (fun _ _ h=>h.elim)⟩
  have Hcp:=Lib.hid (copyP_any p A B a b' w5 HABC.out.1 HABC.out.2 (Hlen.out p Hp1.out).1 (Hlen.out p Hp1.out).2);have z0:=(S.lv 2 rfl).all;clear HS5 HAB HABC;go_wp2_with fail
  refine (Hcp.out).mono ?_;rintro e w6 ⟨A6,a6,B6,b6,rfl,T⟩;have S6:Mem w w6 [.loc V #[.int .i64 x.k,.string x.t] 46,.loc R pzCs 80,.loc Z (psCs p A a B b') 80,.sl rInt A6 p.tch,.sl rId B6 p.ids]:=S.join T;have r0:=(S6.lv 1 rfl).all;have S7:=(((S6.set 1 0 (.int .i64 p.key.k) rfl).set 1 1 (.string p.key.t) rfl).set 1 2 (.slice A6 p.tch.length a6) rfl).set 1 3 (.slice B6 p.ids.length b6) rfl;have HS7:=Lib.hid S7;clear S S6 S7 T Hcp z0;go_wp2_with fail
  exact bodyPost_ret (results_cs rfl rfl rfl (loadPsn (HS7.out.lv 1 rfl))) rfl ⟨p,A6,a6,B6,b6,by rw [← Hb1.out];rfl,Hp1.out,((HS7.out.del 0).del 0).del 0⟩
 ·obtain ⟨Z,hZ⟩:∃ Z,Z=(wd).heap.size:=⟨_,rfl⟩;replace S:Mem w _ [.loc V #[.int .i64 x.k,.string x.t] 46,.loc R pzCs 80,.loc Z pzCs 80]:=S.newAt pzCs 80 Z hZ;go_wp2_with fail
  rw [← hZ];clear hZ;generalize (wd).alloc (.cells pzCs 80)=w4 at *;refine ⟨⟨HX.out w4 S.b,S.lv 0 rfl⟩,?_⟩;refine mixT_l rfl rfl (fun K9 hK9=>?_);go_wp2_with fail
  refine (Ho.out w4 S.b).mono ?_;rintro e w3 ⟨cs9,b,rfl,hb,hof⟩;replace S:=S.below hb;obtain ⟨p,A,a,B,b',hb1,hp1,rfl,hA,hB⟩:=isOf_copy hof;have Hp1:=Lib.hid hp1;have Hb1:=Lib.hid hb1;have hC:=(⟨HX.out w3 S.b,S.lv 0 rfl⟩:LV w3 X (ixCs r K ck W cw Sv cs L n c Pa P.length cp) 130∧LV w3 V #[.int .i64 x.k,.string x.t] 46);have HAB:Hid (Below w.heap.size w w3∧Sl rInt (fun k=>w.heap.size≤k) w3 A p.tch∧Sl rId (fun k=>w.heap.size≤k) w3 B p.ids):=⟨S.b,hA,hB⟩;clear hb hof hA hB hp1 hb1 Ho;go_wp2_with fail
  refine ⟨hC,?_⟩;clear hC;refine mpT ?_;refine mixT_b rfl rfl (fun K9 hK9=>?_);have z0:=(S.lv 2 rfl).all;have S5:Mem w _ [.loc V #[.int .i64 x.k,.string x.t] 46,.loc R pzCs 80,.loc Z (psCs p A a B b') 80]:=(((S.set 2 0 (.int .i64 p.key.k) rfl).set 2 1 (.string p.key.t) rfl).set 2 2 (.slice A p.tch.length a) rfl).set 2 3 (.slice B p.ids.length b') rfl;have HS5:=Lib.hid S5;have HZ:Hid (w3.heap.size≤((((w3.setCell ⟨Z,0,none⟩ (.int .i64 p.key.k)).setCell ⟨Z,1,none⟩ (.string p.key.t)).setCell ⟨Z,2,none⟩ (.slice A p.tch.length a)).setCell ⟨Z,3,none⟩ (.slice B p.ids.length b')).heap.size):=by simp only [World.size_setCell];exact Nat.le_refl _
  clear S S5;go_wp2_with fail
  refine ⟨trivial,?_⟩;refine mpT ?_;refine mixT_nil ?_;simp only [Exit.then];refine hKK _ _ ?_;clear hKK KK z0;generalize (((w3.setCell ⟨Z,0,none⟩ (.int .i64 p.key.k)).setCell ⟨Z,1,none⟩ (.string p.key.t)).setCell ⟨Z,2,none⟩ (.slice A p.tch.length a)).setCell ⟨Z,3,none⟩ (.slice B p.ids.length b')=w5 at HS5 HZ ⊢;have S:=HS5.out;have HABC:Hid (Sl rInt (fun _=>False) w5 A p.tch∧Sl rId (fun _=>False) w5 B p.ids):=by
   obtain ⟨hb,hA,hB⟩:=HAB.out;have hk:SKN (fun k=>w.heap.size≤k) w3 w5:=⟨HZ.out,fun k hk hn=>(S.b.block k (Nat.lt_of_not_le hn)).trans (hb.block k (Nat.lt_of_not_le hn)).symm⟩;exact ⟨(hA.keep hk).mono (fun _ _ h=>h.elim),(hB.keep hk).mono (fun _ _ h=>h.elim)⟩
  have Hcp:=Lib.hid (copyP_any p A B a b' w5 HABC.out.1 HABC.out.2 (Hlen.out p Hp1.out).1 (Hlen.out p Hp1.out).2);have z0:=(S.lv 2 rfl).all;clear HS5 HAB HABC;go_wp2_with fail
  refine (Hcp.out).mono ?_;rintro e w6 ⟨A6,a6,B6,b6,rfl,T⟩;have S6:Mem w w6 [.loc V #[.int .i64 x.k,.string x.t] 46,.loc R pzCs 80,.loc Z (psCs p A a B b') 80,.sl rInt A6 p.tch,.sl rId B6 p.ids]:=S.join T;have r0:=(S6.lv 1 rfl).all;have S7:=(((S6.set 1 0 (.int .i64 p.key.k) rfl).set 1 1 (.string p.key.t) rfl).set 1 2 (.slice A6 p.tch.length a6) rfl).set 1 3 (.slice B6 p.ids.length b6) rfl;have HS7:=Lib.hid S7;clear S S6 S7 T Hcp z0;go_wp2_with fail
  exact bodyPost_ret (results_cs rfl rfl rfl (loadPsn (HS7.out.lv 1 rfl))) rfl ⟨p,A6,a6,B6,b6,by rw [← Hb1.out];rfl,Hp1.out,((HS7.out.del 0).del 0).del 0⟩
end
section
open Go Go.RowKit
theorem Mem.putTr {w0 w:World}{cs:List Chunk}(S:Mem w0 w cs)(i:Nat){B E g n cap:Nat}{ys:List TQ}(hi:cs[i]? =some (.own rTQ B E (.slice (some ⟨g,0,none⟩) n cap) ys))(hn:n=ys.length)(p:Nat)(z x:TQ)(hz:ys[p]? =some z) :
  Mem w0 (((((w.setCell ⟨g,p * 5,none⟩ (.int .i64 x.t.no)).setCell ⟨g,p * 5 + 1,none⟩ (.int .i64 x.t.at')).setCell ⟨g,p * 5 + 2,none⟩ (.string x.t.src)).setCell ⟨g,p * 5 + 3,none⟩ (.slice x.A x.t.ids.length x.c)).setCell ⟨g,p * 5 + 4,none⟩ (.slice x.B x.t.flds.length x.d)) (cs.set i (.own rTQ B E (.slice (some ⟨g,0,none⟩) n cap) (ys.set p x))):=by
 have hp:=lt_of_get hz;have hci:i < cs.length:=lt_of_get hi;have S1:=S.put flatTQ i hi hn p z (⟨⟨x.t.no,z.t.at',z.t.src,z.t.ids,z.t.flds⟩,z.A,z.c,z.B,z.d⟩:TQ) hz 0 (by decide) (.int .i64 x.t.no) rfl;have S2:=S1.put flatTQ i (by rw [List.getElem?_set_self hci]) (by rw [List.length_set];exact hn) p (⟨⟨x.t.no,z.t.at',z.t.src,z.t.ids,z.t.flds⟩,z.A,z.c,z.B,z.d⟩:TQ) (⟨⟨x.t.no,x.t.at',z.t.src,z.t.ids,z.t.flds⟩,z.A,z.c,z.B,z.d⟩:TQ) (by rw [List.getElem?_set_self hp]) 1 (by decide) (.int .i64 x.t.at') rfl;simp only [List.set_set] at S2;have S3:=S2.put flatTQ i (by rw [List.getElem?_set_self hci]) (by rw [List.length_set];exact hn) p (⟨⟨x.t.no,x.t.at',z.t.src,z.t.ids,z.t.flds⟩,z.A,z.c,z.B,z.d⟩:TQ) (⟨⟨x.t.no,x.t.at',x.t.src,z.t.ids,z.t.flds⟩,z.A,z.c,z.B,z.d⟩:TQ) (by rw [List.getElem?_set_self hp]) 2 (by decide) (.string x.t.src) rfl;simp only [List.set_set] at S3;have S4:=S3.put flatTQ i (by rw [List.getElem?_set_self hci]) (by rw [List.length_set];exact hn) p (⟨⟨x.t.no,x.t.at',x.t.src,z.t.ids,z.t.flds⟩,z.A,z.c,z.B,z.d⟩:TQ) (⟨⟨x.t.no,x.t.at',x.t.src,x.t.ids,z.t.flds⟩,x.A,x.c,z.B,z.d⟩:TQ) (by rw [List.getElem?_set_self hp]) 3 (by decide) (.slice x.A x.t.ids.length x.c) rfl;simp only [List.set_set] at S4;have S5:=S4.put flatTQ i (by rw [List.getElem?_set_self hci]) (by rw [List.length_set];exact hn) p (⟨⟨x.t.no,x.t.at',x.t.src,x.t.ids,z.t.flds⟩,x.A,x.c,z.B,z.d⟩:TQ) x (by rw [List.getElem?_set_self hp]) 4 (by decide) (.slice x.B x.t.flds.length x.d) rfl;simp only [List.set_set] at S5;exact S5
theorem Mem.putPr {w0 w:World}{cs:List Chunk}(S:Mem w0 w cs)(i:Nat){B E g n cap:Nat}{ys:List PsQ}(hi:cs[i]? =some (.own rPsQ B E (.slice (some ⟨g,0,none⟩) n cap) ys))(hn:n=ys.length)(p:Nat)(z x:PsQ)(hz:ys[p]? =some z) :
  Mem w0 ((((w.setCell ⟨g,p * 4,none⟩ (.int .i64 x.p.key.k)).setCell ⟨g,p * 4 + 1,none⟩ (.string x.p.key.t)).setCell ⟨g,p * 4 + 2,none⟩ (.slice x.A x.p.tch.length x.a)).setCell ⟨g,p * 4 + 3,none⟩ (.slice x.B x.p.ids.length x.b)) (cs.set i (.own rPsQ B E (.slice (some ⟨g,0,none⟩) n cap) (ys.set p x))):=by
 have hp:=lt_of_get hz;have hci:i < cs.length:=lt_of_get hi;have S1:=S.put flatPsQ i hi hn p z (⟨⟨⟨x.p.key.k,z.p.key.t⟩,z.p.tch,z.p.ids⟩,z.A,z.a,z.B,z.b⟩:PsQ) hz 0 (by decide) (.int .i64 x.p.key.k) rfl;have S2:=S1.put flatPsQ i (by rw [List.getElem?_set_self hci]) (by rw [List.length_set];exact hn) p (⟨⟨⟨x.p.key.k,z.p.key.t⟩,z.p.tch,z.p.ids⟩,z.A,z.a,z.B,z.b⟩:PsQ) (⟨⟨⟨x.p.key.k,x.p.key.t⟩,z.p.tch,z.p.ids⟩,z.A,z.a,z.B,z.b⟩:PsQ) (by rw [List.getElem?_set_self hp]) 1 (by decide) (.string x.p.key.t) rfl;simp only [List.set_set] at S2;have S3:=S2.put flatPsQ i (by rw [List.getElem?_set_self hci]) (by rw [List.length_set];exact hn) p (⟨⟨⟨x.p.key.k,x.p.key.t⟩,z.p.tch,z.p.ids⟩,z.A,z.a,z.B,z.b⟩:PsQ) (⟨⟨⟨x.p.key.k,x.p.key.t⟩,x.p.tch,z.p.ids⟩,x.A,x.a,z.B,z.b⟩:PsQ) (by rw [List.getElem?_set_self hp]) 2 (by decide) (.slice x.A x.p.tch.length x.a) rfl;simp only [List.set_set] at S3;have S4:=S3.put flatPsQ i (by rw [List.getElem?_set_self hci]) (by rw [List.length_set];exact hn) p (⟨⟨⟨x.p.key.k,x.p.key.t⟩,x.p.tch,z.p.ids⟩,x.A,x.a,z.B,z.b⟩:PsQ) x (by rw [List.getElem?_set_self hp]) 3 (by decide) (.slice x.B x.p.ids.length x.b) rfl;simp only [List.set_set] at S4;exact S4
def CopiedCT (qs ys zs:List TQ)(k:Nat):Prop:=ys.map TQ.t=(qs.take k).map TQ.t∧ys.length=k∧zs=ys++qs.drop k
set_option maxHeartbeats 8000000 in
set_option maxRecDepth 100000 in
theorem touches_any9 (ix:Array Value)(X:Nat)(L:Option Addr)(c:Nat)(qs:List TQ)(w:World)(hX:LV w X ix 130)(hc:ix[4]? =some (.slice L qs.length c))(hq:Sl rTQ (fun _=>False) w L qs)(hd:TdOk (fun _=>False) w qs)(hl:qs.length≤1000)(hs:∀ q∈qs,q.t.ids.length≤1000∧q.t.flds.length≤1000) :
  Calls Tryz.prog 41 #[.pointer (some ⟨X,0,none⟩)] w fun e w'=>∃ A c',e=.returned (.slice A qs.length c')∧Mem w w' [.sl rTch A (qs.map TQ.t)]:=by
 have Hc:=Lib.hid (cloneT_any L qs c w hq hl);have Hq:=Lib.hid (fun w' (h:Below w.heap.size w w')=>hq.keepB h);have Hd:Hid (∀ q∈qs,∀ w',Below w.heap.size w w'→Calls Tryz.prog 84 #[.agg (tcCs q.t q.A q.c q.B q.d)] w' (GivesCT q.t w')):=fun q h w' hb=>copyT_any q.t q.A q.B q.c q.d w' ((hd q h).1.keepB hb) ((hd q h).2.keepB hb) (hs q h).1 (hs q h).2;have l0:=hX.cell 4 _ hc;clear hq hd hX hc;go_enter Tryz.func41,Tryz.ntmps41
 go_wp2_with fail
 refine (Hc.out).mono ?_;rintro e w2 ⟨A2,c2,rfl,T⟩;obtain ⟨n,hn⟩:∃ n,n=qs.length:=⟨_,rfl⟩;have Hn:=Lib.hid hn;rw [← hn] at T hl ⊢;obtain ⟨B,hB⟩:∃ B,B=w.heap.size:=⟨_,rfl⟩;have Hb:Hid (B=w.heap.size):=hB;have S:Mem w w2 [.own rTQ B 58 (.slice A2 n c2) qs,.tdat []]:=by
  rw [hB];exact T.call (Below.refl _ _) (.tdat []) (fun q hq=>by cases hq) (fun k e=>by cases e)
 clear hn hB T Hc l0;go_upto_region 2 with fail
 go_wp2_with fail
 go_loopw [13] (fun i wr=>∃ (k:Nat) (ys zs:List TQ),k≤n∧i=.int .i64 k∧Hid (CopiedCT qs ys zs k)∧Mem w wr [.own rTQ B 58 (.slice A2 n c2) zs,.tdat ys]) (fun i _=>n - (intOf i).toNat)
 case atStart=>exact ⟨0,[],qs,Nat.zero_le _,rfl,⟨rfl,rfl,rfl⟩,S⟩
 case round =>
  clear S;obtain ⟨k,ys,zs,hk,rfl,Hz,S⟩:=hrel;have Hzl:Hid (n=zs.length):=by show _=_;rw [Hz.out.2.2,List.length_append,List.length_drop,Hz.out.2.1,← Hn.out];omega
  by_cases hlt:k < n
  ·obtain ⟨q,hq⟩:∃ q,qs[k]? =some q:=⟨_,List.getElem?_eq_getElem (by have:=Hn.out;omega)⟩;have hzq:zs[k]? =some q:=by
    rw [Hz.out.2.2,List.getElem?_append_right (by have:=Hz.out.2.1;omega),Hz.out.2.1,List.getElem?_drop,Nat.sub_self];exact hq
   have Hzq:=Lib.hid hzq;have Hqk:=Lib.hid hq;obtain ⟨g,cap,e,hcap⟩:=(S.ow 0 rfl).form (by have:=Hzl.out;omega);simp only [Value.slice.injEq] at e;obtain ⟨e1,e2,e3⟩:=e;subst e1;clear e2 e3 hcap hq hzq;obtain ⟨⟨d0,d1,d2,d3,d4⟩,_⟩:=(S.ow 0 rfl).tqAt Hzl.out k q Hzq.out;go_upto_region 5 with fail
   obtain ⟨Y,hY⟩:∃ Y,Y=wr.heap.size:=⟨_,rfl⟩;have S2:Mem w _ [.own rTQ B 58 (.slice (some ⟨g,0,none⟩) n c2) zs,.tdat ys,.loc Y (tcCs q.t q.A q.c q.B q.d) 58]:=S.newAt (tcCs q.t q.A q.c q.B q.d) 58 Y hY;rw [← hY];clear hY S d0 d1 d2 d3 d4;generalize wr.alloc (.cells (tcCs q.t q.A q.c q.B q.d) 58)=w3 at *;have y0:=(S2.lv 2 rfl).all;have Hcp:=Lib.hid (Hd.out q (List.mem_of_getElem? Hqk.out) w3 S2.b);have HS2:=Lib.hid S2;clear S2;go_wp2_with fail
   refine (Hcp.out).mono ?_;rintro e w4 ⟨A1,c1,B1,d1,rfl,T⟩;have S4:Mem w w4 [.own rTQ B 58 (.slice (some ⟨g,0,none⟩) n c2) zs,.tdat ys,.loc Y (tcCs q.t q.A q.c q.B q.d) 58,.sl rId A1 q.t.ids,.sl rFld B1 q.t.flds]:=HS2.out.join T;obtain ⟨x,hx⟩:∃ x:TQ,x=⟨q.t,A1,c1,B1,d1⟩:=⟨_,rfl⟩;have hxt:x.t=q.t:=by rw [hx]
   have S5:Mem w w4 [.own rTQ B 58 (.slice (some ⟨g,0,none⟩) n c2) zs,.tdat (ys++[x])]:=(((S4.turn 1 rfl (.tdat (ys++[x])) rfl (fun p hp=>by
    rcases List.mem_append.1 hp with hp | hp
    ·exact (S4.ok (.tdat ys) (.tail _ (.head _))) p hp
    ·rw [List.mem_singleton.1 hp,hx];exact ⟨S4.slc 3 rfl,S4.slc 4 rfl⟩)).del 4).del 3).del 2
   obtain ⟨⟨e0,e1,e2,e3,e4⟩,ff⟩:=(S5.ow 0 rfl).tqAt Hzl.out k q Hzq.out;have f0:w4.frozen? ⟨g,k * 5,none⟩=false:=ff 0 (by omega);have f1:=ff 1 (by omega);have f2:=ff 2 (by omega);have f3:=ff 3 (by omega);have f4:=ff 4 (by omega);have S6:=S5.putTr 0 rfl Hzl.out k q x Hzq.out;rw [hx] at S6;have HS6:=Lib.hid S6;have H1:Hid (CopiedCT qs (ys++[x]) (zs.set k x) (k + 1)):=by
    have hkl:=lt_of_get Hqk.out;have e1:qs.drop k=q::qs.drop (k + 1):=by
     rw [List.drop_eq_getElem_cons hkl];rw [List.getElem?_eq_getElem hkl] at Hqk;rw [Option.some.inj Hqk.out]
    refine ⟨?_,?_,?_⟩
    ·rw [take_snoc Hqk.out,List.map_append,List.map_append,Hz.out.1,List.map_singleton,hxt];rfl
    ·rw [List.length_append,Hz.out.2.1];rfl
    ·rw [Hz.out.2.2,e1,List.set_append_right _ _ (by have:=Hz.out.2.1;omega),Hz.out.2.1,Nat.sub_self,List.set_cons_zero];simp
   rw [hx] at H1;clear ff S4 S5 S6 HS2 Hcp y0 hx hxt T;go_wp2_with fail
   go_roundw
   case rel=>exact ⟨k + 1,_,_,by omega,by go_num,H1,HS6.out⟩
   case measure=>simp [intOf];omega
  ·obtain rfl:k=n:=by omega
   have hzy:zs=ys:=by rw [Hz.out.2.2,Hn.out,List.drop_length,List.append_nil]
   have hys:ys.map TQ.t=qs.map TQ.t:=by rw [Hz.out.1,Hn.out,List.take_length]
   rw [hzy] at S;obtain ⟨A5,c5,e5,S5⟩:=S.frz 0 rfl;have S6:Mem w wr [.sl rTQ A5 ys,.tdat ys]:=S5;have S7:Mem w wr [.sl rTch A5 (ys.map TQ.t)]:=(S6.turn 0 rfl (.sl rTch A5 (ys.map TQ.t)) rfl (slTch (S6.slc 0 rfl) (S6.ok (.tdat ys) (.tail _ (.head _))))).del 1;rw [hys] at S7;simp only [Value.slice.injEq] at e5;obtain ⟨e6,e7,e8⟩:=e5;subst e6;have HS7:=Lib.hid S7;clear S S5 S6 S7 hzy hys e7 e8;go_wp2_with fail
   go_ret;exact ⟨A2,c2,by rw [← Hn.out];rfl,HS7.out⟩
def CopiedCP (qs ys zs:List PsQ)(k:Nat):Prop:=ys.map PsQ.p=(qs.take k).map PsQ.p∧ys.length=k∧zs=ys++qs.drop k
set_option maxHeartbeats 8000000 in
set_option maxRecDepth 100000 in
theorem persons_any9 (ix:Array Value)(X:Nat)(L:Option Addr)(c:Nat)(qs:List PsQ)(w:World)(hX:LV w X ix 130)(hc:ix[5]? =some (.slice L qs.length c))(hq:Sl rPsQ (fun _=>False) w L qs)(hd:PdOk (fun _=>False) w qs)(hl:qs.length≤1000)(hs:∀ q∈qs,q.p.tch.length≤1000∧q.p.ids.length≤1000) :
  Calls Tryz.prog 44 #[.pointer (some ⟨X,0,none⟩)] w fun e w'=>∃ A c',e=.returned (.slice A qs.length c')∧Mem w w' [.sl rPsn A (qs.map PsQ.p)]:=by
 have Hc:=Lib.hid (clonePQ_any L qs c w hq hl);have Hq:=Lib.hid (fun w' (h:Below w.heap.size w w')=>hq.keepB h);have Hd:Hid (∀ q∈qs,∀ w',Below w.heap.size w w'→Calls Tryz.prog 98 #[.agg (psCs q.p q.A q.a q.B q.b)] w' (GivesCP q.p w')):=fun q h w' hb=>copyP_any q.p q.A q.B q.a q.b w' ((hd q h).1.keepB hb) ((hd q h).2.keepB hb) (hs q h).1 (hs q h).2;have l0:=hX.cell 5 _ hc;clear hq hd hX hc;go_enter Tryz.func44,Tryz.ntmps44
 go_wp2_with fail
 refine (Hc.out).mono ?_;rintro e w2 ⟨A2,c2,rfl,T⟩;obtain ⟨n,hn⟩:∃ n,n=qs.length:=⟨_,rfl⟩;have Hn:=Lib.hid hn;rw [← hn] at T hl ⊢;obtain ⟨B,hB⟩:∃ B,B=w.heap.size:=⟨_,rfl⟩;have Hb:Hid (B=w.heap.size):=hB;have S:Mem w w2 [.own rPsQ B 80 (.slice A2 n c2) qs,.pdat []]:=by
  rw [hB];exact T.call (Below.refl _ _) (.pdat []) (fun q hq=>by cases hq) (fun k e=>by cases e)
 clear hn hB T Hc l0;go_upto_region 2 with fail
 go_wp2_with fail
 go_loopw [13] (fun i wr=>∃ (k:Nat) (ys zs:List PsQ),k≤n∧i=.int .i64 k∧Hid (CopiedCP qs ys zs k)∧Mem w wr [.own rPsQ B 80 (.slice A2 n c2) zs,.pdat ys]) (fun i _=>n - (intOf i).toNat)
 case atStart=>exact ⟨0,[],qs,Nat.zero_le _,rfl,⟨rfl,rfl,rfl⟩,S⟩
 case round =>
  clear S;obtain ⟨k,ys,zs,hk,rfl,Hz,S⟩:=hrel;have Hzl:Hid (n=zs.length):=by show _=_;rw [Hz.out.2.2,List.length_append,List.length_drop,Hz.out.2.1,← Hn.out];omega
  by_cases hlt:k < n
  ·obtain ⟨q,hq⟩:∃ q,qs[k]? =some q:=⟨_,List.getElem?_eq_getElem (by have:=Hn.out;omega)⟩;have hzq:zs[k]? =some q:=by
    rw [Hz.out.2.2,List.getElem?_append_right (by have:=Hz.out.2.1;omega),Hz.out.2.1,List.getElem?_drop,Nat.sub_self];exact hq
   have Hzq:=Lib.hid hzq;have Hqk:=Lib.hid hq;obtain ⟨g,cap,e,hcap⟩:=(S.ow 0 rfl).form (by have:=Hzl.out;omega);simp only [Value.slice.injEq] at e;obtain ⟨e1,e2,e3⟩:=e;subst e1;clear e2 e3 hcap hq hzq;obtain ⟨⟨d0,d1,d2,d3⟩,_⟩:=(S.ow 0 rfl).pqAt Hzl.out k q Hzq.out;go_upto_region 5 with fail
   obtain ⟨Y,hY⟩:∃ Y,Y=wr.heap.size:=⟨_,rfl⟩;have S2:Mem w _ [.own rPsQ B 80 (.slice (some ⟨g,0,none⟩) n c2) zs,.pdat ys,.loc Y (psCs q.p q.A q.a q.B q.b) 80]:=S.newAt (psCs q.p q.A q.a q.B q.b) 80 Y hY;rw [← hY];clear hY S d0 d1 d2 d3;generalize wr.alloc (.cells (psCs q.p q.A q.a q.B q.b) 80)=w3 at *;have y0:=(S2.lv 2 rfl).all;have Hcp:=Lib.hid (Hd.out q (List.mem_of_getElem? Hqk.out) w3 S2.b);have HS2:=Lib.hid S2;clear S2;go_wp2_with fail
   refine (Hcp.out).mono ?_;rintro e w4 ⟨A1,c1,B1,d1,rfl,T⟩;have S4:Mem w w4 [.own rPsQ B 80 (.slice (some ⟨g,0,none⟩) n c2) zs,.pdat ys,.loc Y (psCs q.p q.A q.a q.B q.b) 80,.sl rInt A1 q.p.tch,.sl rId B1 q.p.ids]:=HS2.out.join T;obtain ⟨x,hx⟩:∃ x:PsQ,x=⟨q.p,A1,c1,B1,d1⟩:=⟨_,rfl⟩;have hxt:x.p=q.p:=by rw [hx]
   have S5:Mem w w4 [.own rPsQ B 80 (.slice (some ⟨g,0,none⟩) n c2) zs,.pdat (ys++[x])]:=(((S4.turn 1 rfl (.pdat (ys++[x])) rfl (fun p hp=>by
    rcases List.mem_append.1 hp with hp | hp
    ·exact (S4.ok (.pdat ys) (.tail _ (.head _))) p hp
    ·rw [List.mem_singleton.1 hp,hx];exact ⟨S4.slc 3 rfl,S4.slc 4 rfl⟩)).del 4).del 3).del 2
   obtain ⟨⟨e0,e1,e2,e3⟩,ff⟩:=(S5.ow 0 rfl).pqAt Hzl.out k q Hzq.out;have f0:w4.frozen? ⟨g,k * 4,none⟩=false:=ff 0 (by omega);have f1:=ff 1 (by omega);have f2:=ff 2 (by omega);have f3:=ff 3 (by omega);have S6:=S5.putPr 0 rfl Hzl.out k q x Hzq.out;rw [hx] at S6;have HS6:=Lib.hid S6;have H1:Hid (CopiedCP qs (ys++[x]) (zs.set k x) (k + 1)):=by
    have hkl:=lt_of_get Hqk.out;have e1:qs.drop k=q::qs.drop (k + 1):=by
     rw [List.drop_eq_getElem_cons hkl];rw [List.getElem?_eq_getElem hkl] at Hqk;rw [Option.some.inj Hqk.out]
    refine ⟨?_,?_,?_⟩
    ·rw [take_snoc Hqk.out,List.map_append,List.map_append,Hz.out.1,List.map_singleton,hxt];rfl
    ·rw [List.length_append,Hz.out.2.1];rfl
    ·rw [Hz.out.2.2,e1,List.set_append_right _ _ (by have:=Hz.out.2.1;omega),Hz.out.2.1,Nat.sub_self,List.set_cons_zero];simp
   rw [hx] at H1;clear ff S4 S5 S6 HS2 Hcp y0 hx hxt T;go_wp2_with fail
   go_roundw
   case rel=>exact ⟨k + 1,_,_,by omega,by go_num,H1,HS6.out⟩
   case measure=>simp [intOf];omega
  ·obtain rfl:k=n:=by omega
   have hzy:zs=ys:=by rw [Hz.out.2.2,Hn.out,List.drop_length,List.append_nil]
   have hys:ys.map PsQ.p=qs.map PsQ.p:=by rw [Hz.out.1,Hn.out,List.take_length]
   rw [hzy] at S;obtain ⟨A5,c5,e5,S5⟩:=S.frz 0 rfl;have S6:Mem w wr [.sl rPsQ A5 ys,.pdat ys]:=S5;have S7:Mem w wr [.sl rPsn A5 (ys.map PsQ.p)]:=(S6.turn 0 rfl (.sl rPsn A5 (ys.map PsQ.p)) rfl (slPsn (S6.slc 0 rfl) (S6.ok (.pdat ys) (.tail _ (.head _))))).del 1;rw [hys] at S7;simp only [Value.slice.injEq] at e5;obtain ⟨e6,e7,e8⟩:=e5;subst e6;have HS7:=Lib.hid S7;clear S S5 S6 S7 hzy hys e7 e8;go_wp2_with fail
   go_ret;exact ⟨A2,c2,by rw [← Hn.out];rfl,HS7.out⟩
end
end Go.Proofs.YtmkkppknaikjjaaGreatDoor
