/- Several texts in one: GenMeas, RDbls. -/
import Derived.Test.YtmkkppknaikjjaaGreatDoorPack8
import Derived.Test.YtmkkppknaikjjaaGreatDoorPack9
/- What the generator Measures makes. -/
set_option maxHeartbeats 16000000
set_option maxRecDepth 100000
open Go.Lib renaming hid→Z9
open List renaming getElem?_eq_getElem→Z8, mem_of_getElem?→Z7, length_append→Z4, getElem?_set_self→ZY, length_map→ZW, length_cons→ZV, getElem?_map→ZT, length_take→ZR, map_append→ZP, length_nil→ZO, map_cons→Zt, foldl_cons→Zk, mem_cons→YU, take_append_drop→YK, not_mem_nil→YI
open Nat renaming le_refl→Z5, zero_le→ZN, min_eq_left→Zl
open Go.RowKit.Below renaming refl→ZX
open Int renaming eq_ofNat_of_zero_le→Zi
namespace Go.Proofs.YtmkkppknaikjjaaGreatDoor
section
open Go.RowKit
theorem aaj:kF 35 96 lK.size 40 (.agg #[.string ⟨#[]⟩,.int .i64 0,.int .i64 0,.int .i64 0]):=⟨Tryz.underlying35,by kernel_rfl,rfl,by decide⟩
theorem AB:lK.Flat cu.cells:=fun _ _ _ _=>Iff.rfl
theorem aak (m:cu):∀ u∈m.cells,u.oneCell'=true:=fun u hu=>by
 simp only [cu.cells,YU,YI,or_false] at hu;rcases hu with rfl | rfl | rfl | rfl <;> rfl
def agk (b m:Nat)(w:World)(e:Ending)(w':World):Prop:=∃ (v:Value) (xs:List cu),e=.returned v∧Own lK (Lt w.heap.size) w.heap.size 96 w' v xs∧xs.length≤3∧(∀ m∈xs,m.name.size≤100)∧G b m w w'
theorem Names.at {w:World}(h:Names w)(k:Nat)(hk:k < 6):∃ s:ByteArray,s.size≤100∧w.cell? ⟨0,k,none⟩=some (.string s):=by
 obtain ⟨h0,h1,h2,h3,h4,h5⟩:=h;obtain rfl | rfl | rfl | rfl | rfl | rfl:k=0∨k=1∨k=2∨k=3∨k=4∨k=5:=by omega
 ·exact ⟨_,by decide,h0⟩
 ·exact ⟨_,by decide,h1⟩
 ·exact ⟨_,by decide,h2⟩
 ·exact ⟨_,by decide,h3⟩
 ·exact ⟨_,by decide,h4⟩
 ·exact ⟨_,by decide,h5⟩
theorem Ns {xs:List cu}{p:Nat}{x:cu}(h:∀ m∈xs,m.name.size≤100)(hx:x.name.size≤100):∀ m∈xs.set p x,m.name.size≤100:=fun m hm=>by
 rcases List.mem_or_eq_of_mem_set hm with h' | h'
 ·exact h m h'
 ·rw [h'];exact hx
theorem aal {xs:List cu}{x:cu}(h:∀ m∈xs,m.name.size≤100)(hx:x.name.size≤100):∀ m∈xs++[x],m.name.size≤100:=fun m hm=>by
 rcases List.mem_append.1 hm with h' | h'
 ·exact h m h'
 ·rw [List.mem_singleton.1 h'];exact hx
def agl (B:Nat)(i:Nat)(v:Value)(w:World):Prop :=
 match i with
 | 1=>qU 0 5 v
 | 2=>∃ k:Nat,k < 6∧v=.pointer (some ⟨0,k,none⟩)
 | 3=>IsS 100 v
 | 5=>qU 1 3 v
 | 7=>iw B [1,5,10,-3] v w
 | 8=>qU (-3) 10 v
 | 9=>∃ (s:ByteArray) (h p:Int),v=.agg #[.string s,.int .i64 h,.int .i64 0,.int .i64 p]∧s.size≤100∧1≤h∧h≤3∧-3≤p∧p≤10
 | 10=>AL B #[.string ⟨#[]⟩,.int .i64 0,.int .i64 0,.int .i64 0] 96 v w
 | _=>True
theorem adC (b m:Nat)(w:World)(hs:bQ b m w)(hm:m≤100000000)(hN:Names w)(hNb:0≠b) :
  Calls Tryz.prog 7 #[.pointer (some ⟨b,0,none⟩)] w (agk b (m + 100) w):=by
 have S:=(St.start hs).nil lK w.heap.size 96;have HN:=Z9 hN;clear hs hN;go_enter Tryz.func7,Tryz.ntmps7
 go_wp2_with fail
 refine (mZ b _ _ _ (1) (3) S.g.s (by first | rfl | simp) (by first | rfl | simp) (nP (by decide)) (by simp) (by simp) (by omega)).mono ?_;rintro e w1 ⟨n1,alS,alT,rfl,jO,og⟩;replace S:=S.step jO og;clear jO og;obtain ⟨n,rfl⟩:=Zi (by omega:0≤n1);go_wp2_with fail
 go_loopw [3,9] (fun v i wr=>∃ (k:Nat) (xs:List cu),k≤n∧i=.int .i64 k∧xs.length=k∧(∀ m∈xs,m.name.size≤100)∧St b (m + 1 + 20 * k) w wr [.own lK w.heap.size 96 v xs]) (fun _ i _=>n - (intOf i).toNat)
 case atStart=>exact ⟨0,[],by omega,rfl,rfl,(fun _ h=>by cases h),S.mono (by omega)⟩
 case round =>
  clear S;obtain ⟨k,xs,hk,rfl,hxl,hsm,S⟩:=hrel;have Hsm:=Z9 hsm;have wZ:=Z9 hxl;have hxk:xs.length≤3:=by omega
  have hxn:n≤k→1≤xs.length:=fun h=>by omega
  clear hsm hxl;by_cases hkn:k < n
  ·go_wp2_with fail
   refine Nu 11 (fun _=>True) [.q 0,.q 4,.q 6,.f [1,2,3,5,7,8,9,10],.e 11] (by kernel_rfl) (by kernel_rfl) (fun _ _=>trivial) (fun KK aF wd hd=>?_);replace S:=S.below (hd.below _);have hbd:b < wd.heap.size:=Nat.lt_of_lt_of_le S.b0 S.g.size;clear hd;refine yH ?_;refine Rk [(1,12,[]),(2,13,[(1,12)]),(3,14,[(2,13)]),(5,16,[(1,12)]),(7,18,[]),(8,19,[(5,16),(7,18)]),(9,20,[(3,14),(5,16),(8,19)]),(10,4,[])] rfl (by kernel_rfl) (fun c w'=>G b (m + 1 + 20 * k + c) wd w') (SK b) (agl wd.heap.size) (G.start S.g.s) (fun _ _ _=>trivial) ?_ (by rfl) ?_ ?_
   ·refine all_cons (fun _ _ _ _ h=>h) (all_cons (fun _ _ _ _ h=>h) (all_cons (fun _ _ _ _ h=>h) (all_cons (fun _ _ _ _ h=>h) (all_cons (fun v _ _ k h=>iw.keep h k hbd) (all_cons (fun _ _ _ _ h=>h) (all_cons (fun _ _ _ _ h=>h) (all_cons (fun v _ _ k h=>AL.keep h k hbd) all_nil)))))))
   ·refine all_cons ?_ (all_cons ?_ (all_cons ?_ (all_cons ?_ (all_cons ?_ (all_cons ?_ (all_cons ?_ (all_cons ?_ all_nil)))))));all_goals (intro o ho c ν w2 hc hinv hp;cases ho;simp only [xg,Zk,List.foldl_nil];simp only [ZV,ZO] at hc)
    ·go_wp2_with fail
     refine (next_any b _ _ _ hinv.s (by omega) (by omega) (by omega)).mono ?_;rintro e w3 ⟨r,Nv,Nw,rfl,bF,dJ⟩;go_wp2_with fail
     refine ⟨_,rfl,bF,(hinv.step bF dJ).mono (by omega),?_⟩;exact ⟨r,rfl,by omega,by omega⟩
    ·obtain ⟨z,e1,z1,z2⟩:=(hp (1,12) (by simp):qU 0 5 (ν 1));obtain ⟨q,rfl⟩:=Zi z1;simp only [e1];go_wp2_with fail
     first | exact ⟨_,rfl,SK.refl _ _,hinv.mono (by omega),q,by omega,rfl⟩ | exact ⟨SK.refl _ _,hinv.mono (by omega),q,by omega,rfl⟩
    ·obtain ⟨q,hq,e1⟩:=(hp (2,13) (by simp):∃ k:Nat,k < 6∧ν 2=.pointer (some ⟨0,k,none⟩));obtain ⟨s,hs,hc⟩:=((HN.out.keep S.g.k hNb).keep hinv.k hNb).at q hq;simp only [e1];go_wp2_with fail
     first | exact ⟨_,rfl,SK.refl _ _,hinv.mono (by omega),s,rfl,hs⟩ | exact ⟨SK.refl _ _,hinv.mono (by omega),s,rfl,hs⟩
    ·go_wp2_with fail
     refine (range_any b _ _ _ _ hinv.s (by omega) (by omega) (by omega) (by omega)).mono ?_;rintro e w3 ⟨r,Nv,Nw,rfl,bF,dJ⟩;go_wp2_with fail
     refine ⟨_,rfl,bF,(hinv.step bF dJ).mono (by omega),?_⟩;exact ⟨r,rfl,by omega,by omega⟩
    ·go_wp2_with fail
     first | exact ⟨_,rfl,(SK.refl _ _).alloc _,(hinv.alloc _).mono (by omega),w2.heap.size,rfl,LV.new _ _ _ _ rfl,hinv.size⟩ | exact ⟨(SK.refl _ _).alloc _,(hinv.alloc _).mono (by omega),w2.heap.size,rfl,LV.new _ _ _ _ rfl,hinv.size⟩
    ·have h7:iw wd.heap.size [1,5,10,-3] (ν 7) w2:=hp (7,18) (by simp);go_wp2_with fail
     refine (h7.pick hinv.s hbd (by simp) (by simp) (by omega)).mono ?_;rintro e w3 ⟨r,hr,rfl,bF,dJ⟩;go_wp2_with fail
     refine ⟨_,rfl,bF,(hinv.step bF dJ).mono (by omega),?_⟩;exact ⟨r,rfl,by simp at hr;omega,by simp at hr;omega⟩
    ·obtain ⟨s,e1,h1⟩:=(hp (3,14) (by simp):IsS 100 (ν 3));obtain ⟨h,e2,h2,h3⟩:=(hp (5,16) (by simp):qU 1 3 (ν 5));obtain ⟨p,e3,h4,h5⟩:=(hp (8,19) (by simp):qU (-3) 10 (ν 8));simp only [e1,e2,e3];go_wp2_with fail
     first | exact ⟨_,rfl,SK.refl _ _,hinv.mono (by omega),s,h,p,rfl,h1,h2,h3,h4,h5⟩ | exact ⟨SK.refl _ _,hinv.mono (by omega),s,h,p,rfl,h1,h2,h3,h4,h5⟩
    ·go_wp2_with fail
     first | exact ⟨_,rfl,(SK.refl _ _).alloc _,(hinv.alloc _).mono (by omega),w2.heap.size,rfl,LV.new _ _ _ _ rfl,hinv.size⟩ | exact ⟨(SK.refl _ _).alloc _,(hinv.alloc _).mono (by omega),w2.heap.size,rfl,LV.new _ _ _ _ rfl,hinv.size⟩
   ·intro ν w2 hinv hf;obtain ⟨s,hv,p,e9,hs,hh1,hh2,hp1,hp2⟩:=(hf (9,20,[(3,14),(5,16),(8,19)]) (by simp):∃ (s:ByteArray) (h p:Int),ν 9=.agg #[.string s,.int .i64 h,.int .i64 0,.int .i64 p]∧s.size≤100∧1≤h∧h≤3∧-3≤p∧p≤10);obtain ⟨X,e10,gq,hX⟩:=(hf (10,4,[]) (by simp):AL wd.heap.size #[.string ⟨#[]⟩,.int .i64 0,.int .i64 0,.int .i64 0] 96 (ν 10) w2);replace S:=S.call hinv (.loc X #[.string ⟨#[]⟩,.int .i64 0,.int .i64 0,.int .i64 0] 96) gq (fun k e=>by cases e;exact hX);simp only [xg,Zt,List.map_nil,Zk,List.foldl_nil,e9,e10];clear hf hinv gq e9 e10;generalize ν 1=q1;generalize ν 2=q2;generalize ν 3=q3;generalize ν 5=q5;generalize ν 7=q7;generalize ν 8=q8;have gq:=S.lv 1 rfl;have x0:w2.cell? ⟨X,0,none⟩=some (.string ⟨#[]⟩):=gq.cell 0 _ rfl;have x1:w2.cell? ⟨X,1,none⟩=some (.int .i64 0):=gq.cell 1 _ rfl;have x2:w2.cell? ⟨X,2,none⟩=some (.int .i64 0):=gq.cell 2 _ rfl;have x3:w2.cell? ⟨X,3,none⟩=some (.int .i64 0):=gq.cell 3 _ rfl;have f0:=gq.free 0;have f1:=gq.free 1;have f2:=gq.free 2;have f3:=gq.free 3;refine vC rfl rfl (fun K hK=>?_);go_wp2_with fail
    refine ⟨fun h=>absurd rfl h,?_⟩;refine Ny ?_;simp only [Exit.then];refine aF _ _ ?_;have S2:St b (m + 1 + 20 * k + 8) w ((((w2.setCell ⟨X,0,none⟩ (.string s)).setCell ⟨X,1,none⟩ (.int .i64 hv)).setCell ⟨X,2,none⟩ (.int .i64 0)).setCell ⟨X,3,none⟩ (.int .i64 p)) [.own lK w.heap.size 96 u3 xs,.loc X #[.string s,.int .i64 hv,.int .i64 0,.int .i64 p] 96] :=
     (((S.set 1 0 (.string s) rfl).set 1 1 (.int .i64 hv) rfl).set 1 2 (.int .i64 0) rfl).set 1 3 (.int .i64 p) rfl
    clear x0 x1 x2 x3 f0 f1 f2 f3 gq S;generalize (((w2.setCell ⟨X,0,none⟩ (.string s)).setCell ⟨X,1,none⟩ (.int .i64 hv)).setCell ⟨X,2,none⟩ (.int .i64 0)).setCell ⟨X,3,none⟩ (.int .i64 p)=w3 at *;have S:=S2;clear S2;have x1:w3.cell? ⟨X,1,none⟩=some (.int .i64 hv):=(S.lv 1 rfl).cell 1 _ rfl;by_cases hh:hv=1
    ·subst hh;obtain ⟨wz,hwz⟩:∃ wz,wz=w3:=⟨_,rfl⟩;rw [← hwz] at S;have q0:World.cell? w3 ⟨X,0,none⟩=some (.string s):=by rw [← hwz];exact (S.lv 1 rfl).cell 0 _ rfl
     have q1:World.cell? w3 ⟨X,1,none⟩=some (.int .i64 1):=by rw [← hwz];exact (S.lv 1 rfl).cell 1 _ rfl
     have q2:World.cell? w3 ⟨X,2,none⟩=some (.int .i64 0):=by rw [← hwz];exact (S.lv 1 rfl).cell 2 _ rfl
     have q3:World.cell? w3 ⟨X,3,none⟩=some (.int .i64 p):=by rw [← hwz];exact (S.lv 1 rfl).cell 3 _ rfl
     have hsz:=S.g.size;rw [hwz] at S hsz;clear hwz;go_wp2_with (at_builtin;refine S.app 0 rfl aaj rfl _ _ rfl ⟨s,1,0,p⟩ 1 rfl (by first | rfl | (show Value.slice (some ⟨w4.heap.size,0,none⟩) 1 1=_;simp [World.setCell])) rfl (aak ⟨s,1,0,p⟩) hsz (by omega) (by decide) ?_;intro v' w6 S6)
     go_roundw
     case rel=>exact ⟨k + 1,xs++[⟨s,1,0,p⟩],by omega,by go_num,by simp [wZ.out],aal Hsm.out hs,(S6.del 1).mono (by omega)⟩
     case measure=>simp [intOf];omega
    ·have hh':(hv==1)=false:=by simpa using hh
     go_wp2_with fail
     refine (mZ b _ _ _ (1) (20) S.g.s (by first | rfl | simp) (by first | rfl | simp) (nP (by decide)) (by simp) (by simp) (by omega)).mono ?_;rintro e w4 ⟨fr,alU,alV,rfl,dK,eH⟩;replace S:=S.step dK eH;clear dK eH;have y2:w4.cell? ⟨X,2,none⟩=some (.int .i64 0):=(S.lv 1 rfl).cell 2 _ rfl;have g2:=(S.lv 1 rfl).free 2;have S2:St b (m + 1 + 20 * k + 8 + 1) w (w4.setCell ⟨X,2,none⟩ (.int .i64 fr)) [.own lK w.heap.size 96 u3 xs,.loc X #[.string s,.int .i64 hv,.int .i64 fr,.int .i64 p] 96]:=S.set 1 2 (.int .i64 fr) rfl;clear S x1;have S:=S2;clear S2;obtain ⟨wz,hwz⟩:∃ wz,wz=(w4.setCell ⟨X,2,none⟩ (.int .i64 fr)):=⟨_,rfl⟩;rw [← hwz] at S;have q0:World.cell? (w4.setCell ⟨X,2,none⟩ (.int .i64 fr)) ⟨X,0,none⟩=some (.string s):=by rw [← hwz];exact (S.lv 1 rfl).cell 0 _ rfl
     have q1:World.cell? (w4.setCell ⟨X,2,none⟩ (.int .i64 fr)) ⟨X,1,none⟩=some (.int .i64 hv):=by rw [← hwz];exact (S.lv 1 rfl).cell 1 _ rfl
     have q2:World.cell? (w4.setCell ⟨X,2,none⟩ (.int .i64 fr)) ⟨X,2,none⟩=some (.int .i64 fr):=by rw [← hwz];exact (S.lv 1 rfl).cell 2 _ rfl
     have q3:World.cell? (w4.setCell ⟨X,2,none⟩ (.int .i64 fr)) ⟨X,3,none⟩=some (.int .i64 p):=by rw [← hwz];exact (S.lv 1 rfl).cell 3 _ rfl
     have hsz:=S.g.size;rw [hwz] at S hsz;clear hwz;go_wp2_with (at_builtin;refine S.app 0 rfl aaj rfl _ _ rfl ⟨s,hv,fr,p⟩ 1 rfl (by first | rfl | (show Value.slice (some ⟨w4.heap.size,0,none⟩) 1 1=_;simp [World.setCell])) rfl (aak ⟨s,hv,fr,p⟩) hsz (by omega) (by decide) ?_;intro v' w6 S6)
     go_roundw
     case rel=>exact ⟨k + 1,xs++[⟨s,hv,fr,p⟩],by omega,by go_num,by simp [wZ.out],aal Hsm.out hs,(S6.del 1).mono (by omega)⟩
     case measure=>simp [intOf];omega
  ·have hx1:=hxn (by omega);clear hxn;have ho:=S.Jm 0 rfl;obtain ⟨g,cap,rfl,hcap⟩:=ho.form (by omega);clear ho;go_wp2_with fail
   refine (flip_any b _ _ _ S.g.s (by omega) (by omega) (by omega)).mono ?_;rintro e w2 ⟨r2,rfl,bW,dP⟩;replace S:=S.step bW dP;clear bW dP;cases r2
   ·go_wp2_with fail
    go_ret;exact ⟨_,xs,rfl,S.Jm 0 rfl,by omega,Hsm.out,S.g.mono (by omega)⟩
   ·obtain ⟨x0,hx0⟩:∃ x0,xs[0]? =some x0:=⟨_,Z8 (by omega)⟩;have oI:=Z9 hx0;clear hx0;go_wp2_with fail
    refine (next_any b _ _ _ S.g.s (by omega) (by omega) (by omega)).mono ?_;rintro e w3 ⟨r3,alW,alX,rfl,bF,dJ⟩;replace S:=S.step bF dJ;clear bF dJ;obtain rfl | rfl | rfl | rfl:r3=0∨r3=1∨r3=2∨r3=3:=by omega
    ·go_wp2_with fail
     refine (one_le b _ _ _ (100) S.g.s (by first | rfl | simp) (by first | rfl | simp) (Jj (by decide)) (by simp) (by simp) (by omega)).mono ?_;rintro e w4 ⟨nm,Nz,rfl,dK,eH⟩;replace S:=S.step dK eH;clear dK eH;obtain ⟨c0,f0⟩:=Own.cellP AB (S.ow 0 rfl) rfl 0 x0 oI.out 0 _ rfl;have c0':w4.cell? ⟨g,0,none⟩=some (.string x0.name):=c0;have f0':w4.frozen? ⟨g,0,none⟩=false:=f0;clear c0 f0;have S2:St b _ w (w4.setCell ⟨g,0,none⟩ (.string nm)) [.own lK w.heap.size 96 (.slice (some ⟨g,0,none⟩) xs.length cap) (xs.set 0 ⟨nm,x0.how,x0.far,x0.pts⟩)]:=St.put AB S 0 rfl rfl 0 x0 ⟨nm,x0.how,x0.far,x0.pts⟩ oI.out 0 (by decide) (.string nm) rfl;go_wp2_with fail
     go_ret;exact ⟨_,_,rfl,S2.Jm 0 rfl,by simp;omega,Ns (p:=0) (x:=⟨nm,x0.how,x0.far,x0.pts⟩) Hsm.out Nz,S2.g.mono (by omega)⟩
    ·go_wp2_with fail
     refine (Du b _ _ _ _ S.g.s (by omega) (by omega) (by omega) (by omega)).mono ?_;rintro e w4 ⟨o4,agm,agn,rfl,dK,eH⟩;replace S:=S.step dK eH;clear dK eH;go_wp2_with fail
     refine (Du b _ _ _ _ S.g.s (by omega) (by omega) (by omega) (by omega)).mono ?_;rintro e w5 ⟨o5,alY,alZ,rfl,dD,gK⟩;replace S:=S.step dD gK;clear dD gK;obtain ⟨c1,f1⟩:=Own.cellP AB (S.ow 0 rfl) rfl 0 x0 oI.out 1 _ rfl;have c1':w5.cell? ⟨g,1,none⟩=some (.int .i64 x0.how):=c1;have f1':w5.frozen? ⟨g,1,none⟩=false:=f1;obtain ⟨c2,f2⟩:=Own.cellP AB (S.ow 0 rfl) rfl 0 x0 oI.out 2 _ rfl;have c2':w5.cell? ⟨g,2,none⟩=some (.int .i64 x0.far):=c2;have f2':w5.frozen? ⟨g,2,none⟩=false:=f2;clear c1 f1 c2 f2;have S2:St b _ w (w5.setCell ⟨g,1,none⟩ (.int .i64 o4)) [.own lK w.heap.size 96 (.slice (some ⟨g,0,none⟩) xs.length cap) (xs.set 0 ⟨x0.name,o4,x0.far,x0.pts⟩)]:=St.put AB S 0 rfl rfl 0 x0 ⟨x0.name,o4,x0.far,x0.pts⟩ oI.out 1 (by decide) (.int .i64 o4) rfl;have S3:St b _ w ((w5.setCell ⟨g,1,none⟩ (.int .i64 o4)).setCell ⟨g,2,none⟩ (.int .i64 o5)) [.own lK w.heap.size 96 (.slice (some ⟨g,0,none⟩) xs.length cap) ((xs.set 0 ⟨x0.name,o4,x0.far,x0.pts⟩).set 0 ⟨x0.name,o4,o5,x0.pts⟩)]:=St.put AB S2 0 rfl (by simp) 0 ⟨x0.name,o4,x0.far,x0.pts⟩ ⟨x0.name,o4,o5,x0.pts⟩ (by rw [ZY (by omega)]) 2 (by decide) (.int .i64 o5) rfl;have hx0:x0.name.size≤100:=Hsm.out x0 (Z7 oI.out);go_wp2_with fail
     go_ret;exact ⟨_,_,rfl,S3.Jm 0 rfl,by simp;omega,Ns (p:=0) (x:=⟨x0.name,o4,o5,x0.pts⟩) (Ns (p:=0) (x:=⟨x0.name,o4,x0.far,x0.pts⟩) Hsm.out hx0) hx0,S3.g.mono (by omega)⟩
    ·go_wp2_with fail
     refine (Du b _ _ _ _ S.g.s (by omega) (by omega) (by omega) (by omega)).mono ?_;rintro e w4 ⟨o4,agm,agn,rfl,dK,eH⟩;replace S:=S.step dK eH;clear dK eH;obtain ⟨c1,f1⟩:=Own.cellP AB (S.ow 0 rfl) rfl 0 x0 oI.out 3 _ rfl;have c1':w4.cell? ⟨g,3,none⟩=some (.int .i64 x0.pts):=c1;have f1':w4.frozen? ⟨g,3,none⟩=false:=f1;clear c1 f1;have S2:St b _ w (w4.setCell ⟨g,3,none⟩ (.int .i64 o4)) [.own lK w.heap.size 96 (.slice (some ⟨g,0,none⟩) xs.length cap) (xs.set 0 ⟨x0.name,x0.how,x0.far,o4⟩)]:=St.put AB S 0 rfl rfl 0 x0 ⟨x0.name,x0.how,x0.far,o4⟩ oI.out 3 (by decide) (.int .i64 o4) rfl;have hx0:x0.name.size≤100:=Hsm.out x0 (Z7 oI.out);go_wp2_with fail
     go_ret;exact ⟨_,_,rfl,S2.Jm 0 rfl,by simp;omega,Ns (p:=0) (x:=⟨x0.name,x0.how,x0.far,o4⟩) Hsm.out hx0,S2.g.mono (by omega)⟩
    ·go_wp2_with fail
     go_ret;exact ⟨_,[],rfl,Own.nil _ _ _ _ _,by simp,(fun _ h=>by cases h),S.g.mono (by omega)⟩
end
section
open Go Go.RowKit
theorem adH {r:aP}{ts:List ak}{c:Nat→Nat}{k:Nat}{p:Psn}(h:(xQ r ts c)[k]? =some p):∃ hd,(heads c ts.length)[k]? =some hd∧p=BR r ts c hd:=by
 unfold xQ at h;rw [ZT] at h;cases e:(heads c ts.length)[k]? with
 | none=>rw [e] at h;cases h
 | some hd =>
  rw [e] at h;exact ⟨hd,rfl,(Option.some.inj h).symm⟩
theorem adF (r:aP)(K W Sv A:Option Addr)(ck cw cs c:Nat)(ts:List ak)(ml:List cu)(Am:Option Addr)(cm:Nat)(least:Int)(w:World)(hR:kN (fun _=>False) w r K W Sv)(hT:Sl fU (fun _=>False) w A ts)(ho:lM r ts)(hu:BN ts)(hq:BO ts)(hsl:r.aX.length≤30)(hss:∀ s∈r.aX,s.srcs.length≤1000000)(hts:ts.length≤8)(htf:iy ts=0)(hS:Sl lK (fun _=>False) w Am ml)(hmf:lN ml=0)(hU:Tabs w) :
  Calls Tryz.prog 13 #[.agg (aN r K ck W cw Sv cs),.slice A ts.length c,.slice Am ml.length cm,.int .i64 least] w (VQ (wE (mM r) r ts ml least) w):=by
 obtain ⟨Y,hY⟩:∃ Y,Y=w.heap.size:=⟨_,rfl⟩;have T:Mem w _ [.loc Y (aN r K ck W cw Sv cs) 29]:=(Mem.start w).newAt (aN r K ck W cw Sv cs) 29 Y hY;have HR:=Z9 (fun w' (h:Below w.heap.size w w')=>hR.aK h);have HT:=Z9 (fun w' (h:Below w.heap.size w w')=>hT.aK h);have HS:=Z9 (fun w' (h:Below w.heap.size w w')=>hS.aK h);have HU:=Z9 (fun w' (h:Below w.heap.size w w')=>Utf8Tabs_below hU h);have Ho:=Z9 ho;have Hu:=Z9 hu;have Hq:=Z9 hq;have G9:=Z9 hss;have BU:=Z9 hts;have Htf:=Z9 htf;have Hmf:=Z9 hmf;have qK:=Z9 hsl;clear hR hT ho hu hq hss hU hS hts htf hmf hsl;go_enter Tryz.func13,Tryz.ntmps13
 go_upto_region 1 with fail
 rw [← hY];clear hY;generalize w.alloc (.cells (aN r K ck W cw Sv cs) 29)=w1 at *;have y0:=(T.lv 0 rfl).all;go_upto_region 1 with fail
 go_wp2_with fail
 refine (iY least (-100000) 100000 w1).mono ?_;rintro e _ ⟨rfl,rfl⟩;by_cases hle:-100000≤least∧least≤100000
 ·rw [decide_eq_true hle];have nG:=Z9 hle;have Hp:=Z9 (adI (fun _=>False) r K W Sv A ck cw cs c ts w1 (HR.out w1 T.b) (HT.out w1 T.b) Ho.out);clear hle;go_wp2_with fail
  refine (Hp.out).mono ?_;rintro e w2 ⟨A2,c2,P,rfl,hP,M0⟩;obtain ⟨cc,hcc,rfl⟩:=hP;have H6:=Z9 hcc;have hPl:(xQ r ts cc).length=(heads cc ts.length).length:=by unfold xQ;rw [ZW]
  obtain ⟨P,hP⟩:∃ P,xQ r ts cc=P:=⟨_,rfl⟩;have jP:Hid (∀ k p,P[k]? =some p→∃ hd,(heads cc ts.length)[k]? =some hd∧p=BR r ts cc hd):=fun k p h=>adH (by rw [hP];exact h);rw [hP] at M0 hPl ⊢;have Hnh:=Z9 hPl;have VR:P.length≤8:=by
   rw [hPl];have h1:=EO cc ts.length;have h2:=BU.out;omega
  have M:Mem w w2 [.loc Y (aN r K ck W cw Sv cs) 29,.sl kQ A2 P,.own iE w.heap.size 56 (.slice none 0 0) [],.iR []]:=((T.join M0).nil iE w.heap.size 56).VT;have e60:(decide ((60:Int) < (P.length:Int)))=false:=by rw [decide_eq_false_iff_not];omega
  clear Hp hP hPl hcc T M0 y0;go_wp2_with fail
  clear e60;go_loopw [11,32] (fun s11 Py wr=>∃ (k:Nat) (R:List (ah×List aQ)) (rq:List RQ),k≤P.length∧Py=.int .i64 k∧Hid (oZ (mM r) r ts cc k R)∧Hid (rq.map RQ.l=R.map Prod.snd)∧Hid (rq.length=k)∧Mem w wr [.loc Y (aN r K ck W cw Sv cs) 29,.sl kQ A2 P,.own iE w.heap.size 56 s11 rq,.iR rq]) (fun _ Py _=>P.length - (intOf Py).toNat)
  case atStart=>exact ⟨0,[],[],ZN _,rfl,oZ.start _ _ _ _,rfl,rfl,M⟩
  case round =>
   clear M;obtain ⟨k,R,rq,hk,rfl,HK,BX,Hrl,M⟩:=hrel;by_cases hlt:k < P.length
   ·obtain ⟨q,hqk⟩:∃ q,P[k]? =some q:=⟨_,Z8 hlt⟩;obtain ⟨hd,hhd,hqe⟩:=jP.out k q hqk;obtain ⟨b1,o1,At,ca,Ap,cp,rfl,hb1,d0,d1,d2,d3,hsA,_⟩:=(M.slc 1 rfl).EP k q hqk;have hQ:=Hq.out;have hal:=BZ cc ts.length hd;have htn:=BU.out;have hC2:zo ts q.aC=fH ts (partAt cc ts.length hd):=by rw [hqe];exact adJ Hu.out cc hd
    have hpl:q.aC.length≤1000000:=by
     rw [hqe];show ((partAt cc ts.length hd).map (jQ ts)).length≤_;rw [ZW];omega
    have hcl:(fH ts (partAt cc ts.length hd)).length≤100000:=by
     have h1:=Lu hQ.fl (partAt cc ts.length hd);omega
    have hkey:q.key=keyAt r ts hd:=by rw [hqe];rfl
    have HC:Hid (∀ w',Below wr.heap.size wr w'→Sl ay (fun _=>False) w' At q.aC):=fun w' h=>(hsA.mono (fun _ _ h=>h.elim)).aK h;have oh:Hid (∀ w',Below w.heap.size w w'→Below wr.heap.size wr w'→Calls Tryz.prog 65 #[.agg (aN r K ck W cw Sv cs),.slice A ts.length c,.agg (o8 q At ca Ap cp)] w' (VU (mM r) (fH ts (partAt cc ts.length hd)) w')):=fun w' h h2=>by
     have h3:=adK r K W Sv A ck cw cs c ts q At Ap ca cp w' (HR.out w' h) (HT.out w' h) (by omega) hQ.fl hpl (HC.out w' h2) qK.out G9.out (by rw [hC2];exact hQ.VW _) (by rw [hC2];omega) (HU.out w' h);rw [hC2] at h3;exact h3
    have o9:Hid (∀ l,nH (mM r) (fH ts (partAt cc ts.length hd)) l→l.length≤30→oZ (mM r) r ts cc (k + 1) (R++[(q.key,l)])):=fun l h1 h2=>by
     rw [hkey];exact HK.out.snoc hhd h1 h2
    have LC:Hid (∀ l,nH (mM r) (fH ts (partAt cc ts.length hd)) l→30 < l.length→wE (mM r) r ts ml least 2 []):=fun l h1 h2=>.inr ⟨nG.out,cc,H6.out,.inl ⟨rfl,rfl,k,hd,l,hhd,h1,h2⟩⟩;have hbw:Below wr.heap.size wr (wr.alloc (.cells (o8 q At ca Ap cp) 80)):=(ZX _ _).alloc (Z5 _) _;clear hqk hhd hqe hkey hQ hal htn hpl hcl hC2 HC hsA;obtain ⟨Z,hZ⟩:∃ Z,Z=wr.heap.size:=⟨_,rfl⟩;have M1:Mem w (wr.alloc (.cells (o8 q At ca Ap cp) 80)) [.loc Y (aN r K ck W cw Sv cs) 29,.sl kQ (some ⟨b1,o1,none⟩) P,.own iE w.heap.size 56 u11 rq,.iR rq,.loc Z (o8 q At ca Ap cp) 80]:=M.newAt (o8 q At ca Ap cp) 80 Z hZ;have rF:=Z9 (oh.out _ M1.b hbw);clear M hbw oh;go_upto_region 10 with fail
    rw [← hZ];clear hZ d0 d1 d2 d3 hb1;generalize wr.alloc (.cells (o8 q At ca Ap cp) 80)=w6 at *;have z0:=(M1.lv 4 rfl).all;have y0:=(M1.lv 0 rfl).all;go_wp2_with fail
    refine (rF.out).mono ?_;rintro e w7 ⟨A7,c7,l,F,rfl,hm,T7⟩;obtain ⟨m,hm1,hm2⟩:=hm;rcases hm2 with ⟨hlen,rfl,rfl⟩ | ⟨hlen,rfl,rfl⟩
    ·have Hd:=Z9 (LC.out m hm1 hlen);have qg:Hid (Mem w w7 [.sl aY none []]):=((Mem.start w).below (M1.b.trans (T7.b.mono M1.b.size))).call (ZX _ _) _ Sl.nil (fun k e=>by cases e);clear hm1 hlen T7 M1 z0 y0 rF;go_wp2_with fail
     exact bodyPost_ret (wF rfl rfl rfl) rfl ⟨none,0,[],2,rfl,Hd.out,qg.out⟩
    ·have M2:Mem w w7 [.loc Y (aN r K ck W cw Sv cs) 29,.sl kQ (some ⟨b1,o1,none⟩) P,.own iE w.heap.size 56 u11 rq,.iR rq,.sl bK A7 l]:=(M1.join T7).del 4;have HN:=Z9 (o9.out l hm1 hlen);have Pz:Hid ((rq++[(⟨A7,c7,l⟩:RQ)]).map RQ.l=(R++[(q.key,l)]).map Prod.snd):=by show _=_;rw [ZP,ZP,BX.out];rfl
     have hsz:=M2.b.size;have hrl:=Hrl.out;have PD:Hid ((rq++[(⟨A7,c7,l⟩:RQ)]).length=k + 1):=by show _=_;rw [Z4,hrl];rfl
     clear hm1 T7 M1 z0 y0 rF LC;go_wp2_with (at_builtin;refine M2.app 2 rfl VX rfl _ _ rfl ⟨A7,c7,l⟩ 1 rfl rfl rfl (VY ⟨A7,c7,l⟩) hsz (by omega) (by decide) ?_;intro v8 w8 M3)
     have M4:Mem w w8 [.loc Y (aN r K ck W cw Sv cs) 29,.sl kQ (some ⟨b1,o1,none⟩) P,.own iE w.heap.size 56 v8 (rq++[⟨A7,c7,l⟩]),.iR rq,.sl bK A7 l]:=M3;have M5:Mem w w8 [.loc Y (aN r K ck W cw Sv cs) 29,.sl kQ (some ⟨b1,o1,none⟩) P,.own iE w.heap.size 56 v8 (rq++[⟨A7,c7,l⟩]),.iR (rq++[⟨A7,c7,l⟩])]:=(M4.VZ 3 rfl ⟨A7,c7,l⟩ (M4.slc 4 rfl)).del 4;have HM5:=Z9 M5;clear M2 M3 M4 M5 hsz hrl;go_wp2_with fail
     go_roundw
     case rel=>exact ⟨k + 1,R++[(q.key,l)],_,by omega,by go_num,HN.out,Pz,PD,HM5.out⟩
     case measure=>simp [intOf];omega
   ·obtain rfl:k=P.length:=by omega
    obtain ⟨Ar,cr,er,M1⟩:=M.cO 2 rfl;subst er;have hrl:=Hrl.out;rw [hrl];clear M hlt;have PE:=Z9 (adL (r:=r) Htf.out);have dR:Hid (∀ (i:Nat) (q:Psn) (ri:RQ),P[i]? =some q→rq[i]? =some ri→wG R i=q.key∧wH R i=ri.l∧uw ri.l):=fun i q ri hq kD=>by
     obtain ⟨hd,h1,h2⟩:=jP.out i q hq;obtain ⟨l,h4,h5,h6⟩:=HK.out.2 i hd (bM hq) h1;have h7:(rq.map RQ.l)[i]? =(R.map Prod.snd)[i]? :=by rw [BX.out]
     rw [ZT,ZT,kD,h4] at h7;have h8:ri.l=l:=Option.some.inj h7;refine ⟨?_,?_,?_⟩
     ·show (R.getD i _).1=_;rw [List.getD_eq_getElem?_getD,h4,h2];rfl
     ·show (R.getD i _).2=_;rw [List.getD_eq_getElem?_getD,h4,h8];rfl
     ·rw [h8];exact V3 PE.out h5 h6
    have ER:=Z9 (V4 Hmf.out);obtain ⟨n,hn⟩:∃ n,n=P.length:=⟨_,rfl⟩;have wI:=Z9 hn;rw [← hn] at HK VR hrl ⊢;have M2:Mem w wr [.sl kQ A2 P,.sl iE Ar rq,.iR rq,.own aY w.heap.size 48 (.slice none 0 0) []]:=(show Mem w wr [.loc Y (aN r K ck W cw Sv cs) 29,.sl kQ A2 P,.sl iE Ar rq,.iR rq,.own aY w.heap.size 48 (.slice none 0 0) []] from M1.nil aY w.heap.size 48).del 0;have HZ0:Hid (jk (gI R ml least (fG n 0 (0 + 1))) []):=by
     show jk _ _;rw [V5];exact jk.nil
    have hcnt:Hid (∀ i k zs,i < n→k≤n→jk (gI R ml least (fG n i k)) zs→zs.length≤100):=fun i k zs hi hk hz=>by
     have h0:=hz.1.length_eq;have h1:=Lp (K:=R) (ms:=ml) (least:=least) (fG n i k);have h2:=V6 n i (by omega) k hk;have h3:(i + 1) * n≤8 * 8:=Nat.mul_le_mul (by omega) VR;omega
    clear hn M1 BX;go_wp2_with fail
    go_loopw [16,53] (fun s16 s53 wr=>∃ (i:Nat) (zs:List au),i≤n∧s53=.int .i64 i∧Hid (jk (gI R ml least (fG n i (i + 1))) zs)∧Mem w wr [.sl kQ A2 P,.sl iE Ar rq,.iR rq,.own aY w.heap.size 48 s16 zs]) (fun _ s53 _=>n - (intOf s53).toNat)
    case atStart=>exact ⟨0,[],ZN _,rfl,HZ0,M2⟩
    case round =>
     clear M2 HZ0;obtain ⟨i,zs0,hi,rfl,Hz,M⟩:=hrel;by_cases hlt:i < n
     ·obtain ⟨q,hqi⟩:∃ q,P[i]? =some q:=⟨_,Z8 (by have:=wI.out;omega)⟩;obtain ⟨ri,kD⟩:∃ ri,rq[i]? =some ri:=⟨_,Z8 (by omega)⟩;obtain ⟨hk1,hk2,hk3⟩:=dR.out i q ri hqi kD;have Hqi:=Z9 hqi;have jE:=Z9 kD;have Hk:Hid (wG R i=q.key∧wH R i=ri.l∧uw ri.l):=⟨hk1,hk2,hk3⟩;clear hqi kD hk1 hk2 hk3;go_wp2_with fail
      go_loopw [16,18] (fun s16 PG wr=>∃ (k:Nat) (zs:List au),i + 1≤k∧k≤n∧PG=.int .i64 k∧Hid (jk (gI R ml least (fG n i k)) zs)∧Mem w wr [.sl kQ A2 P,.sl iE Ar rq,.iR rq,.own aY w.heap.size 48 s16 zs]) (fun _ PG _=>n - (intOf PG).toNat)
      case atStart=>exact ⟨i + 1,zs0,Z5 _,by omega,by go_num,Hz,M⟩
      case round =>
       clear M Hz;obtain ⟨k,zs,hik,hk,rfl,Hz,M⟩:=hrel;by_cases hlt2:k < n
       ·obtain ⟨p,hpk⟩:∃ p,P[k]? =some p:=⟨_,Z8 (by have:=wI.out;omega)⟩;obtain ⟨rk,hrk⟩:∃ rk,rq[k]? =some rk:=⟨_,Z8 (by omega)⟩;obtain ⟨hp1,hp2,hp3⟩:=dR.out k p rk hpk hrk;obtain ⟨b1,o1,_,_,_,_,eb,hb1,_⟩:=(M.slc 0 rfl).EP k p hpk;subst eb;have hsl:=M.slc 1 rfl;obtain ⟨br,or',PK,hbr,r0⟩:=hsl.rq i ri jE.out;subst PK;obtain ⟨br2,or2,PL,PN,r1⟩:=hsl.rq k rk hrk;cases PL;have LD:Hid (Sl bK (fun _=>False) wr ri.A ri.l):=(M.rd 2 rfl ri (Z7 jE.out)).mono (fun _ _ h=>h.elim);have LG:Hid (Sl bK (fun _=>False) wr rk.A rk.l):=(M.rd 2 rfl rk (Z7 hrk)).mono (fun _ _ h=>h.elim);have Cb:=Z9 (fun w' (h:Below wr.heap.size wr w')=>adM (fun _=>False) Am ri.A rk.A ml ri.l rk.l cm ri.c rk.c w' (HS.out w' (M.b.trans (h.mono M.b.size))) (LD.out.aK h) (LG.out.aK h) ER.out Hk.out.2.2 hp3 (HU.out w' (M.b.trans (h.mono M.b.size))));obtain ⟨PT,Cc⟩:∃ PT,fV ri.l rk.l ml=PT:=⟨_,rfl⟩;rw [Cc] at Cb;have rG:Hid (zq R ml (i,k)=PT):=by
         show fV (wH R i) (wH R k) ml=PT;rw [Hk.out.2.1,hp2,Cc]
        have H7:Hid (wG R i=q.key∧wG R k=p.key):=⟨Hk.out.1,hp1⟩;have hc1:=hcnt.out i k zs hlt (by omega) Hz.out;have uy:=Z9 (fun w' (h:Below wr.heap.size wr w')=>eX (P:=Tryz.prog) (t:=56) (w:=w') (by kernel_rfl) ((h.cell (p:=⟨br,or' + i,none⟩) hbr).trans r0));have tu:=Z9 (fun w' (h:Below wr.heap.size wr w')=>eX (P:=Tryz.prog) (t:=56) (w:=w') (by kernel_rfl) ((h.cell (p:=⟨br,or' + k,none⟩) hbr).trans r1));have Hl2:Hid (∀ w',Sl kQ (fun _=>False) w' (some ⟨b1,o1,none⟩) P→(Instr.loadAt 46 (.pointer (some ⟨b1,o1 + i * 4,none⟩))).run Tryz.prog w'=.ok (.agg #[.int .i64 q.key.k,.string q.key.t]) w'):=fun w' h=>by
         obtain ⟨b3,o3,_,_,_,_,e3,_,f0,f1,_⟩:=h.EP i q Hqi.out;cases e3;exact gU f0 f1
        have Ce:Hid (∀ w',Sl kQ (fun _=>False) w' (some ⟨b1,o1,none⟩) P→(Instr.loadAt 46 (.pointer (some ⟨b1,o1 + k * 4,none⟩))).run Tryz.prog w'=.ok (.agg #[.int .i64 p.key.k,.string p.key.t]) w'):=fun w' h=>by
         obtain ⟨b3,o3,_,_,_,_,e3,_,f0,f1,_⟩:=h.EP k p hpk;cases e3;exact gU f0 f1
        have PO:Hid (¬ least≤PT→jk (gI R ml least (fG n i (k + 1))) zs):=fun h=>by
         rw [PS n i k (by omega)];exact Hz.out.skip (by rw [rG.out];exact h)
        have rH:Hid (∀ at':Nat,least≤PT→at'≤zs.length→(∀ x,0 < at'→zs[at' - 1]? =some x→¬ x.pts < PT)→(∀ x,zs[at']? =some x→x.pts < PT)→jk (gI R ml least (fG n i (k + 1))) (zs.take at'++⟨q.key,p.key,PT,zs.length⟩::zs.drop at')):=fun at' h0 h1 h2 h3=>by
         rw [PS n i k (by omega)];have h4:jk (gI R ml least (fG n i k)) (zs.take at'++zs.drop at'):=by rw [YK];exact Hz.out
         have h5:=h4.put (p:=(i,k)) (by rw [rG.out];exact h0) (fun x hx=>by
          rw [rG.out];have hpos:0 < at':=by
           rcases Nat.eq_zero_or_pos at' with e | e
           ·rw [e,List.take_zero] at hx;cases hx
           ·exact e
          refine h2 x hpos ?_;rw [List.getLast?_eq_getElem?,ZR,Zl h1,List.getElem?_take] at hx;rw [if_pos (by omega)] at hx;exact hx) (fun x hx=>by
          rw [rG.out];rw [List.head?_drop] at hx;exact h3 x hx)
         rw [YK] at h5;unfold H8 at h5;rw [rG.out,H7.out.1,H7.out.2] at h5;exact h5
        have HM:=Z9 M;have hkn:k < rq.length:=by omega
        have hin:i < rq.length:=by omega
        have adN:k < P.length:=by have:=wI.out;omega
        have alA:i < P.length:=by have:=wI.out;omega
        clear M hpk hrk hp1 hp2 hp3 hsl r0 r1 hbr PN hb1 Cc;go_upto_region 22 with fail
        refine dF (fun w'=>Below wr.heap.size wr w') [(true,0),(true,1),(true,2),(true,3),(true,4),(true,5),(true,6),(true,7),(true,8),(false,9),(true,10)] (by kernel_rfl) (by kernel_rfl) (fun w' hd=>hd.below _) (fun KK aF wd aW=>?_);have hC:=aW.below wr.heap.size;clear aW;refine aA ?_;refine jq (.slice ri.A ri.l.length ri.c) rfl rfl rfl rfl (fun w' h=>uy.out w' h) ?_;refine aA ?_;refine jq (.slice rk.A rk.l.length rk.c) rfl rfl rfl rfl (fun w' h=>tu.out w' h) ?_;refine aA ?_;refine aV rfl (fun K9 hK9=>?_) hC;have V7:=Z9 (Cb.out wd hC);go_wp2_with fail
        refine (V7.out).mono ?_;rintro e w3 ⟨rfl,hl3⟩;have dB:=hC.trans (hl3.mono hC.size);clear V7 hl3;go_wp2_with fail
        refine ⟨dB,?_⟩;refine aA ?_;refine dG ?_;simp only [Exit.then];refine aF _ _ ?_;have M4:=HM.out.below dB;clear hC dB HM Cb uy tu LD LG;have H9:i + 1≤k + 1:=by omega
        by_cases hge:least≤PT
        ·have e9:(decide (PT < least))=false:=by rw [decide_eq_false_iff_not];omega
         have V8:=Z9 (fun at'=>rH.out at' hge);clear hge PO rH;obtain ⟨A9,c9,e16⟩:=(M4.ow 3 rfl).len;subst e16;have hsl:=(M4.ow 3 rfl).xR iZ;have Wh:Hid (Sl aY (fun _=>False) w3 A9 zs):=hsl.mono (fun _ _ h=>h.elim);have Wi:=Z9 M4;obtain ⟨m,hm⟩:∃ m,m=zs.length:=⟨_,rfl⟩;have Hm:=Z9 hm;rw [← hm] at hc1 ⊢;clear M4 hsl hm;go_upto_region 24 with fail
         go_wp2_with fail
         go_loopw [20] (fun s20 wx=>∃ at':Nat,at'≤m∧s20=.int .i64 at'∧Hid (∀ x,zs[at']? =some x→x.pts < PT)∧w3=wx) (fun s20 _=>(intOf s20).toNat)
         case atStart=>exact ⟨m,Z5 _,rfl,(fun x hx=>by have:=bM hx;have:=Hm.out;omega),rfl⟩
         case round =>
          obtain ⟨at',hat,rfl,Ci,rfl⟩:=hrel;obtain ⟨B,HB⟩:∃ B:Bool,Hid (B=true ↔ 0 < at'∧∃ x,zs[at' - 1]? =some x∧x.pts < PT):=by
           by_cases hQ:0 < at'∧∃ x,zs[at' - 1]? =some x∧x.pts < PT
           ·exact ⟨true,⟨fun _=>hQ,fun _=>rfl⟩⟩
           ·exact ⟨false,⟨fun h=>(by cases h),fun h=>absurd h hQ⟩⟩
          go_upto_region 25 with fail
          go_cut [90] from 79 to 90 (fun s90 wx=>s90=.bool B∧w3=wx)
          case first =>
           by_cases h0:0 < at'
           ·obtain ⟨x,hx⟩:∃ x,zs[at' - 1]? =some x:=⟨_,Z8 (by have:=Hm.out;omega)⟩;obtain ⟨blk,off,e9',hbk,_,_,_,_,x4⟩:=Wh.out.db _ x hx;subst e9';have Hx:=Z9 hx;have h0i:(decide ((0:Int) < (at':Int)))=true:=by rw [decide_eq_true_eq];omega
            obtain ⟨a,ha⟩:∃ a,a=at' - 1:=⟨_,rfl⟩;have ha1:(at':Int) - 1=(a:Int):=by omega
            have ham:a < m:=by omega
            rw [← ha] at x4;clear hx ha;by_cases uz:x.pts < PT
            ·have e7:(decide (x.pts < PT))=true:=decide_eq_true uz;have Ia:Hid (B=true):=HB.out.2 ⟨h0,x,Hx.out,uz⟩;clear uz;go_wp2_with fail
             go_meet;exact ⟨by rw [Ia.out],rfl⟩
            ·have e7:(decide (x.pts < PT))=false:=decide_eq_false uz;have Ia:Hid (B=false):=by
              show B=false;cases hB2:B
              ·rfl
              ·obtain ⟨_,y,hy,hy2⟩:=HB.out.1 hB2;rw [Hx.out] at hy;cases hy;exact absurd hy2 uz
             clear uz;go_wp2_with fail
             go_meet;exact ⟨by rw [Ia.out],rfl⟩
           ·have h0i:(decide ((0:Int) < (at':Int)))=false:=by rw [decide_eq_false_iff_not];omega
            have Ia:Hid (B=false):=by
             show B=false;cases hB2:B
             ·rfl
             ·obtain ⟨hy0,_⟩:=HB.out.1 hB2;exact absurd hy0 h0
            have h00:at'=0:=by omega
            clear h0;go_wp2_with fail
            go_meet;exact ⟨by rw [Ia.out],rfl⟩
          case rest =>
           obtain ⟨rfl,rfl⟩:=hcut;go_upto_if 90 with fail
           cases B with
           | true =>
            obtain ⟨h0,x,hx,uz⟩:=HB.out.1 rfl;obtain ⟨a,rfl⟩:∃ a,at'=a + 1:=⟨at' - 1,by omega⟩;have Ha:Hid (∀ x,zs[a]? =some x→x.pts < PT):=fun y hy=>by
             rw [Nat.add_sub_cancel] at hx;rw [hx] at hy;cases hy;exact uz
            clear hx uz HB h0;go_wp2_with fail
            go_roundw
            case rel=>exact ⟨a,by omega,by first | rfl | go_num,Ha,by trivial⟩
            case measure=>simp [intOf]
           | false =>
            have Wj:Hid (jk (gI R ml least (fG n i (k + 1))) (zs.take at'++⟨q.key,p.key,PT,zs.length⟩::zs.drop at')):=V8.out at' (by have:=Hm.out;omega) (fun x h0 hx=>by
             have h7:¬ x.pts < PT:=fun uz=>by have:=HB.out.2 ⟨h0,x,hx,uz⟩;cases this
             omega) Ci.out
            clear V8 HB Ci Wh;go_upto_region 27 with fail
            have M4:=Wi.out;refine wJ [] (fun w'=>Sl kQ (fun _=>False) w' (some ⟨b1,o1,none⟩) P) (.p 0 (.p 1 (.p 2 (.p 3 (.p 4 (.p 5 (.q 6 (.p 7 (.p 8 (.p 9 (.p 10 (.q 11 (.p 12 (.p 13 (.e 14 (.e 15 (.p 16 .z))))))))))))))))) (by kernel_rfl) (by kernel_rfl) (fun w' hd=>((M4.below (hd.below _)).slc 0 rfl).mono (fun _ _ h=>h.elim)) (fun KK aF wd hd=>?_);have M5:=M4.below (hd.below _);clear hd M4 Wi;refine dN ?_;refine jc (.agg #[.int .i64 q.key.k,.string q.key.t]) rfl rfl rfl rfl (fun w' h=>Hl2.out w' h) ?_;refine dN ?_;refine jc (.agg #[.int .i64 p.key.k,.string p.key.t]) rfl rfl rfl rfl (fun w' h=>Ce.out w' h) ?_;refine dN ?_;refine gX rfl rfl (fun K9 hK9=>?_);obtain ⟨X,hX⟩:∃ X,X=wd.heap.size:=⟨_,rfl⟩;have M6:Mem w (wd.alloc (.cells (fJ ⟨q.key,p.key,PT,zs.length⟩) 48)) [.own aY w.heap.size 48 (.slice A9 zs.length c9) zs,.loc X (fJ ⟨q.key,p.key,PT,zs.length⟩) 48,.sl kQ (some ⟨b1,o1,none⟩) P,.sl iE (some ⟨br,or',none⟩) rq,.iR rq]:=((M5.newAt (fJ ⟨q.key,p.key,PT,zs.length⟩) 48 X hX).PU 4 rfl).PU 4 rfl;have oq:=((M6.slc 2 rfl).mono (M:=fun _=>False) (fun _ _ h=>h.elim));have PV:=Z9 (adO at' ⟨q.key,p.key,PT,zs.length⟩ X M6 M6.b.size (by have:=Hm.out;omega) (by have:=Hm.out;omega));rw [← Hm.out] at PV;clear M5 M6;go_wp2_with fail
            rw [← hX];refine ⟨oq,?_⟩;clear oq hX;generalize wd.alloc (.cells (fJ ⟨q.key,p.key,PT,zs.length⟩) 48)=w10 at *;refine gX rfl rfl (fun K9 hK9=>?_);go_wp2_with fail
            refine (PV.out).mono ?_;rintro e w12 ⟨v5,rfl,M6⟩;have lS:=((M6.slc 2 rfl).mono (M:=fun _=>False) (fun _ _ h=>h.elim));have HM7:Hid (Mem w w12 [.sl kQ (some ⟨b1,o1,none⟩) P,.sl iE (some ⟨br,or',none⟩) rq,.iR rq,.own aY w.heap.size 48 v5 (zs.take at'++⟨q.key,p.key,PT,m⟩::zs.drop at')]):=(M6.del 1).back;rw [← Hm.out] at Wj;clear M6 PV;go_wp2_with fail
            refine ⟨lS,?_⟩;clear lS;refine dN ?_;refine rJ ?_;simp only [Exit.then];refine aF _ _ ?_;clear aF KK;go_wp2_with fail
            go_roundw
            case rel=>exact ⟨k + 1,_,H9,by omega,by go_num,Wj.out,HM7.out⟩
            case measure=>simp [intOf];omega
        ·have e9:(decide (PT < least))=true:=by rw [decide_eq_true_eq];omega
         have iT:=Z9 (PO.out (by omega));clear hge PO rH;go_wp2_with fail
         go_roundw
         case rel=>exact ⟨k + 1,zs,H9,by omega,by go_num,iT.out,M4⟩
         case measure=>simp [intOf];omega
       ·obtain rfl:n=k:=by omega
        have HzI:Hid (jk (gI R ml least (fG n (i + 1) (i + 1 + 1))) zs):=by
         show jk _ _;rw [Wn n i];exact Hz.out
        clear Hz;go_wp2_with fail
        go_roundw
        case rel=>exact ⟨i + 1,zs,by omega,by go_num,HzI,M⟩
        case measure=>simp [intOf];omega
     ·obtain rfl:n=i:=by omega
      clear hlt;obtain ⟨Az,cz,ez,M3⟩:=M.cO 3 rfl;subst ez;have gV:Hid (wE (mM r) r ts ml least 0 zs0):=by
       refine .inr ⟨nG.out,cc,H6.out,.inr ⟨rfl,R,?_⟩⟩;rw [← Hnh.out,← wI.out];exact ⟨HK.out,Hz.out⟩
      have qg:Hid (Mem w wr [.sl aY Az zs0]):=((M3.del 2).del 1).del 0;clear Hz M M3;go_wp2_with fail
      exact bodyPost_ret (wF rfl rfl rfl) rfl ⟨Az,cz,zs0,0,rfl,gV.out,qg.out⟩
 ·rw [decide_eq_false hle];have gV:Hid (wE (mM r) r ts ml least 1 []):=.inl ⟨hle,rfl,rfl⟩;have qg:Hid (Mem w w1 [.sl aY none []]):=((Mem.start w).below T.b).call (ZX _ _) _ Sl.nil (fun k e=>by cases e);clear hle T y0;go_wp2_with fail
  exact bodyPost_ret (wF rfl rfl rfl) rfl ⟨none,0,[],1,rfl,gV.out,qg.out⟩
end
end Go.Proofs.YtmkkppknaikjjaaGreatDoor
