/- Several texts in one: GenRR, GenRT, People. -/
import Derived.Test.YtmkkppknaikjjaaGreatDoorPackK
/- What the generator RightRules makes: rules without a fault. -/
set_option maxHeartbeats 8000000
set_option maxRecDepth 100000
open Go.Lib renaming hid→Z9
open List renaming getElem?_eq_getElem→Z8, mem_of_getElem?→Z7
open Nat renaming le_refl→Z5, zero_le→ZN
open Bool renaming and_eq_true→ZQ
namespace Go.Proofs.YtmkkppknaikjjaaGreatDoor
section
open Go Go.RowKit
def ah6 (b m:Nat)(w:World)(e:Ending)(w':World):Prop:=∃ (r:aP) (K:Option Addr) (ck:Nat) (W:Option Addr) (cw:Nat) (S:Option Addr) (cs:Nat),
 e=.returned (.agg (aN r K ck W cw S cs))∧F5 r∧jB r=0∧St b m w w' [.sl ay K r.kinds,.sl aO W r.weak,.sl iQ S r.aX]
abbrev TJ:aP:=⟨[1,2],3,[],[]⟩
theorem ah7:F5 TJ:=⟨by decide,by decide,(fun x hx=>by cases hx),by decide,(fun s hs=>by cases hs)⟩
theorem ah8:jB TJ=0:=by decide
theorem agi (b m B:Nat)(w:World)(hs:bQ b m w)(hm:m≤1000000)(hN:Names w)(hNb:0≠b)(hP:Pool w)(hPb:1≠b)(hB:B≤b)(hBw:B≤w.heap.size)(hT:∀ w',Below B w w'→Tabs w'∧gG w') :
  Calls Tryz.prog 45 #[.pointer (some ⟨b,0,none⟩)] w (ah6 b (m + 6000) w):=by
 have S:=(St.start hs).new' fE 29;replace S:St b m w (w.alloc (.cells fE 29)) [.loc w.heap.size fE 29]:=S;have HN:=Z9 hN;have HP:=Z9 hP;have HT:Hid (∀ n w',G b n w w'→Tabs w'∧gG w'):=fun n w' h=>hT w' (h.k.below hB hBw);clear hs hN hP hT hB hBw;obtain ⟨R,hR⟩:∃ R,R=w.heap.size:=⟨_,rfl⟩;rw [← hR] at S;go_enter Tryz.func45,Tryz.ntmps45
 go_upto_region 1 with fail
 generalize w.alloc (.cells fE 29)=w1 at *;rw [← hR];clear hR;go_wp2_with fail
 go_loopw [4] (fun s4 wr=>∃ k:Nat,k≤5∧s4=.int .i64 k∧St b (m + 1000 * k) w wr [.loc R fE 29]) (fun s4 _=>5 - (intOf s4).toNat)
 case atStart=>exact ⟨0,ZN _,rfl,S.mono (by omega)⟩
 case round =>
  clear S;obtain ⟨k,hk,rfl,S⟩:=hrel;by_cases amm:k < 5
  ·go_wp2_with fail
   refine (aai b _ _ S.g.s (by omega) (HN.out.keep S.g.k hNb) hNb (HP.out.keep S.g.k hPb) hPb).mono ?_;rintro e w3 ⟨r,K,ck,W,cw,Sv,cs,rfl,hr,T2⟩;have S5:=S.join T2;obtain ⟨Y,hY⟩:∃ Y,Y=w3.heap.size:=⟨_,rfl⟩;have S6:=S5.newAt (aN r K ck W cw Sv cs) 29 Y hY;replace S6:St b (m + 1000 * k + 1000) w (w3.alloc (.cells (aN r K ck W cw Sv cs) 29)) [.loc R fE 29,.sl ay K r.kinds,.sl aO W r.weak,.sl iQ Sv r.aX,.loc Y (aN r K ck W cw Sv cs) 29]:=S6;have Hr:=Z9 hr;clear S S5 T2 hr;go_upto_region 4 with fail
   rw [← hY];clear hY;generalize w3.alloc (.cells (aN r K ck W cw Sv cs) 29)=w4 at *;have iJ:=HT.out _ _ S6.g;have Hc:=Z9 (Ju (fun _=>False) r K W Sv ck cw cs w4 ⟨(S6.slc 1 rfl).mono (fun _ _ h=>h.elim),(S6.slc 2 rfl).mono (fun _ _ h=>h.elim),(S6.slc 3 rfl).mono (fun _ _ h=>h.elim)⟩ Hr.out.ok iJ.2);obtain ⟨E,HE⟩:∃ E,Hid (jB r=E):=⟨_,Z9 rfl⟩;rw [HE.out] at Hc;have y4:=(S6.lv 4 rfl).all;clear iJ;go_wp2_with fail
   refine (Hc.out).mono ?_;rintro e w5 ⟨rfl,hl5⟩;have S:=S6.below hl5;clear Hc S6 y4 hl5;by_cases h0:E=0
   ·have h1:(E==0)=true:=by simpa using h0
    have y0:=(S.lv 0 rfl).all;have y4:=(S.lv 4 rfl).all;have S9:=(((S.set 0 0 (.slice K r.kinds.length ck) rfl).set 0 1 (.int .i64 r.most) rfl).set 0 2 (.slice W r.weak.length cw) rfl).set 0 3 (.slice Sv r.aX.length cs) rfl;have Kv:Hid (jB r=0):=by show _=_;rw [HE.out,h0]
    clear h0;go_wp2_with fail
    exact bodyPost_ret (fK rfl rfl (oK (S9.lv 0 rfl))) rfl ⟨r,K,ck,W,cw,Sv,cs,rfl,Hr.out,Kv.out,((S9.del 4).del 0).mono (by omega)⟩
   ·have h1:(E==0)=false:=by simpa using h0
    clear h0;go_wp2_with fail
    go_roundw
    case rel=>exact ⟨k + 1,by omega,by go_num,(((((S.del 4).del 3).del 2).del 1)).mono (by omega)⟩
    case measure=>simp [intOf];omega
  ·obtain rfl:k=5:=by omega
   obtain ⟨A1,c1,e1,S1⟩:=((S.newAt #[.int .i64 1,.int .i64 2] 3 wr.heap.size rfl).sQ lY 1 rfl [1,2] rfl rfl (by simp) rfl 2 rfl).cO 1 rfl;cases e1;replace S1:St b (m + 1000 * 5) w (wr.alloc (.cells #[.int .i64 1,.int .i64 2] 3)) [.loc R fE 29,.sl ay (some ⟨wr.heap.size,0,none⟩) [1,2]]:=S1;clear S;have y0:=(S1.lv 0 rfl).all;have S9:=(((S1.set 0 0 (.slice (some ⟨wr.heap.size,0,none⟩) 2 2) rfl).set 0 1 (.int .i64 3) rfl).set 0 2 (.slice none 0 0) rfl).set 0 3 (.slice none 0 0) rfl;have aZ:=S9.del 0;have dW:=aZ.call (G.start aZ.g.s) (.sl aO none []) Sl.nil (fun k e=>by cases e);have gy:=dW.call (G.start dW.g.s) (.sl iQ none []) Sl.nil (fun k e=>by cases e);go_wp2_with fail
   exact bodyPost_ret (fK rfl rfl (oK (S9.lv 0 rfl))) rfl ⟨TJ,some ⟨wr.heap.size,0,none⟩,2,none,0,none,0,rfl,ah7,ah8,gy.mono (by omega)⟩
end
section
open Go Go.RowKit
def ah9 (b m n:Nat)(w:World)(e:Ending)(w':World):Prop:=∃ (v:Value) (qs:List TQ),e=.returned v∧qs.length≤n∧(∀ q∈qs,Ed q.t∧gJ q.t 0=0)∧St b m w w' [.own lX w.heap.size 58 v qs,.jL qs]
theorem aa7 (t:ak):iy [t]=gJ t 0:=by
 unfold iy;rw [if_neg (by simp)];unfold lT;by_cases h:gJ t 0≠0
 ·rw [if_pos h]
 ·rw [if_neg h,lT];omega
theorem aia {t:ak}{last:Int}(h:gJ t last=0):1≤t.no∧t.no≤1000000:=by
 unfold gJ mQ at h;split at h
 ·cases h
 ·rename_i h2;rw [Bool.not_eq_false,ZQ,decide_eq_true_eq] at h2;exact h2.1
theorem agj (b m n B:Nat)(w:World)(hs:bQ b m w)(hm:m≤1000000)(hn:n≤16)(hN:Names w)(hNb:0≠b)(hP:Pool w)(hPb:1≠b)(hB:B≤b)(hBw:B≤w.heap.size)(hT:∀ w',Below B w w'→Tabs w'∧gG w') :
  Calls Tryz.prog 46 #[.pointer (some ⟨b,0,none⟩),.int .i64 n] w (ah9 b (m + 600 * n + 10) n w):=by
 have S0:=(St.start hs).nil lX w.heap.size 58;have S1:=S0.call (G.start S0.g.s) (.jL []) (fun q hq=>by cases hq) (fun k e=>by cases e);have S:St b m w w [.own lX w.heap.size 58 (.slice none 0 0) [],.jL []]:=S1;have HN:=Z9 hN;have HP:=Z9 hP;have HT:Hid (∀ n w',G b n w w'→Tabs w'∧gG w'):=fun n w' h=>hT w' (h.k.below hB hBw);clear hs hN hP S0 S1 hT hB hBw;go_enter Tryz.func46,Tryz.ntmps46
 go_wp2_with fail
 go_loopw [5,10] (fun s5 i wr=>∃ (k:Nat) (A:Option Addr) (c:Nat) (qs:List TQ),k≤n∧i=.int .i64 k∧s5=.slice A qs.length c∧Hid (qs.length≤k)∧Hid (∀ q∈qs,Ed q.t∧gJ q.t 0=0)∧St b (m + 600 * k) w wr [.own lX w.heap.size 58 (.slice A qs.length c) qs,.jL qs]) (fun _ i _=>n - (intOf i).toNat)
 case atStart=>exact ⟨0,none,0,[],ZN _,rfl,rfl,Z5 _,by show ∀ _∈_,_;simp,S⟩
 case round =>
  clear S;obtain ⟨k,A,c,qs,hk,rfl,rfl,bY,dV,S⟩:=hrel;by_cases hkn:k < n
  ·by_cases hl0:0 < qs.length
   ·obtain ⟨q,hq⟩:∃ q,qs[qs.length - 1]? =some q:=⟨_,Z8 (by omega)⟩;obtain ⟨l,hl⟩:∃ l,qs.length=l + 1:=⟨qs.length - 1,by omega⟩;have wR:=aia (dV.out q (Z7 hq)).2;have Ot:=bY.out;have jG:qs.length≤200:=by omega
    obtain ⟨g,cap,e,hcap⟩:=(S.ow 0 rfl).form (by omega);simp only [Value.slice.injEq] at e;obtain ⟨rfl,_,rfl⟩:=e;rw [show qs.length - 1=l by omega] at hq;go_wp2_with fail
    refine dF (fun wc=>wc.cell? ⟨g,l * 5,none⟩=some (.int .i64 q.t.no)) [(true,0),(true,1),(true,2),(true,3),(true,4),(true,5),(true,6),(false,7),(false,8),(true,9),(true,10)] (by kernel_rfl) (by kernel_rfl) (fun _ hd=>(((S.below (hd.below _)).ow 0 rfl).FY rfl _ q hq).1.1) (fun KK aF wd hd=>?_);replace S:=S.below (hd.below _);clear hd;have hC0:wd.cell? ⟨g,l * 5,none⟩=some (.int .i64 q.t.no):=((S.ow 0 rfl).FY rfl _ q hq).1.1;have qE:∀ o,(wd.alloc o).cell? ⟨g,l * 5,none⟩=some (.int .i64 q.t.no):=fun o=>(((S.alloc o).ow 0 rfl).FY rfl _ q hq).1.1;refine aA ?_;refine iI (.int .i64 q.t.no) rfl rfl rfl rfl (fun _=>rfl) (fun _ h=>h) ?_;refine aA ?_;refine aV rfl (fun K hK=>?_) hC0;go_wp2_with fail
    refine ⟨qE _,?_⟩;refine aV rfl (fun K hK=>?_) (qE _);go_wp2_with fail
    refine (mZ b _ _ _ (1) (2) S.g.s (by first | rfl | simp) (by first | rfl | simp) (nP (by decide)) (by simp) (by simp) (by omega)).mono ?_;rintro e w2 ⟨d,Tz,TA,rfl,bW,dP⟩;replace S:=S.step bW dP;clear bW dP;have xC:w2.cell? ⟨g,l * 5,none⟩=some (.int .i64 q.t.no):=((S.ow 0 rfl).FY rfl _ q hq).1.1;have hwr:IntKind.i64.wrap (q.t.no + d)=q.t.no + d:=IntWalk.i64_in _ (by omega);obtain ⟨n2,hn2⟩:∃ n2,q.t.no + d=n2:=⟨_,rfl⟩;rw [hn2] at hwr;have Hno:Hid (-10000000000≤n2∧n2≤10000000000):=by show _∧_;omega
    go_wp2_with fail
    refine ⟨xC,?_⟩;clear xC qE hC0;refine aA ?_;refine dG ?_;simp only [Exit.then];refine aF _ _ ?_;have sS:=Z9 hl;clear wR hq hl hl0 hcap hwr hn2 Tz TA;(try rw [sS.out] at S)
    go_wp2_with fail
    refine (Tv b _ n2 _ S.g.s (by omega) Hno.out (HN.out.keep S.g.k hNb) hNb (HP.out.keep S.g.k hPb) hPb).mono ?_;rintro e w3 ⟨t,A1,c1,B1,d1,rfl,ht,T⟩;have S3:=S.join T;obtain ⟨Y,hY⟩:∃ Y,Y=w3.heap.size:=⟨_,rfl⟩;have S4:St b (m + 600 * k + 502) w _ [.own lX w.heap.size 58 (.slice (some ⟨g,0,none⟩) (l + 1) c) qs,.jL qs,.sl aO A1 t.ids,.sl bK B1 t.aB,.loc Y (aS t A1 c1 B1 d1) 58]:=(S3.newAt (aS t A1 c1 B1 d1) 58 Y hY).mono (by omega);have Ht:=Z9 ht;clear S S3 T ht;go_upto_region 9 with fail
    rw [← hY];clear hY;generalize w3.alloc (.cells (aS t A1 c1 B1 d1) 58)=w4 at *;obtain ⟨A9,c9,e9,S5⟩:=((S4.newAt (aS t A1 c1 B1 d1) 58 w4.heap.size rfl).sQ sK 5 rfl [(⟨t,A1,c1,B1,d1⟩:TQ)] rfl rfl (by simp) rfl 1 rfl).cO 5 rfl;cases e9;have S6:=S5.call (G.start S5.g.s) (.jL []) (fun q hq=>by cases hq) (fun k e=>by cases e);have S7:=(S6.J5 6 2 3 rfl rfl rfl ⟨t,A1,c1,B1,d1⟩ rfl rfl rfl rfl).Jv 5 6 rfl rfl;replace S7:St b (m + 600 * k + 502) w (w4.alloc (.cells (aS t A1 c1 B1 d1) 58)) [.own lX w.heap.size 58 (.slice (some ⟨g,0,none⟩) (l + 1) c) qs,.jL qs,.sl aO A1 t.ids,.sl bK B1 t.aB,.loc Y (aS t A1 c1 B1 d1) 58,.sl fU (some ⟨w4.heap.size,0,none⟩) [t],.jL [⟨t,A1,c1,B1,d1⟩]]:=S7;have iJ:=HT.out _ _ S7.g;have Hc:Hid (Calls Tryz.prog 28 #[.slice (some ⟨w4.heap.size,0,none⟩) 1 1] (w4.alloc (.cells (aS t A1 c1 B1 d1) 58)) fun e w'=>e=.returned (.int .i64 (gJ t 0))∧Below (w4.alloc (.cells (aS t A1 c1 B1 d1) 58)).heap.size (w4.alloc (.cells (aS t A1 c1 B1 d1) 58)) w'):=by
     have:=FT (fun _=>False) (some ⟨w4.heap.size,0,none⟩) [t] 1 _ ((S7.slc 5 rfl).mono (fun _ _ h=>h.elim)) ⟨by simp,fun x hx=>by rw [List.mem_singleton.1 hx];exact Ht.out.ok⟩ iJ.1 iJ.2
     rw [aa7] at this;exact this
    obtain ⟨E,HE⟩:∃ E,Hid (gJ t 0=E):=⟨_,Z9 rfl⟩;rw [HE.out] at Hc;have y4:=(S4.lv 4 rfl).all;clear iJ S4 S5 S6;go_wp2_with fail
    refine (Hc.out).mono ?_;rintro e w5 ⟨rfl,hl5⟩;have S:=S7.below hl5;clear Hc S7 y4 hl5;have y4:=(S.lv 4 rfl).all;by_cases h0:E=0
    ·have h1:(E==0)=true:=by simpa using h0
     have Kv:Hid (gJ t 0=0):=by show _=_;rw [HE.out,h0]
     clear h0 HE;by_cases h2:t.no=n2
     ·have h3:(t.no==n2)=true:=by simpa using h2
      clear h2;have hsz:=S.g.size;have jG:qs.length≤200:=by have:=bY.out;omega
      go_wp2_with (at_builtin;refine S.app 0 rfl Ti rfl _ _ rfl (⟨t,A1,c1,B1,d1⟩:TQ) 1 rfl rfl rfl (Tj ⟨t,A1,c1,B1,d1⟩) hsz (by omega) (by decide) ?_;intro v' w10 S6;obtain ⟨A6,c6,rfl⟩:=(S6.ow 0 rfl).len)
      have S8:=(((((S6.J5 1 2 3 rfl rfl rfl ⟨t,A1,c1,B1,d1⟩ rfl rfl rfl rfl).del 6).del 5).del 4).del 3).del 2;go_roundw
      case rel =>
       refine ⟨k + 1,A6,c6,qs++[⟨t,A1,c1,B1,d1⟩],by omega,by go_num,by simp,by show _≤_;simp;have:=bY.out;omega,?_,S8.mono (by omega)⟩;intro q hq;rcases List.mem_append.1 hq with hq | hq
       ·exact dV.out q hq
       ·rw [List.mem_singleton.1 hq];exact ⟨Ht.out,Kv.out⟩
      case measure=>simp [intOf];omega
     ·have h3:(t.no==n2)=false:=by simpa using h2
      clear h2;have S8:=((((S.del 6).del 5).del 4).del 3).del 2;go_wp2_with fail
      go_roundw
      case rel=>exact ⟨k + 1,(some ⟨g,0,none⟩),c,qs,by omega,by go_num,by first | rfl | rw [sS.out],by show _≤_;have:=bY.out;omega,dV.out,by first | exact S8.mono (by omega) | (rw [sS.out];exact S8.mono (by omega))⟩
      case measure=>simp [intOf];omega
    ·have h1:(E==0)=false:=by simpa using h0
     clear h0;have S8:=((((S.del 6).del 5).del 4).del 3).del 2;go_wp2_with fail
     go_roundw
     case rel=>exact ⟨k + 1,(some ⟨g,0,none⟩),c,qs,by omega,by go_num,by first | rfl | rw [sS.out],by show _≤_;have:=bY.out;omega,dV.out,by first | exact S8.mono (by omega) | (rw [sS.out];exact S8.mono (by omega))⟩
     case measure=>simp [intOf];omega
   ·have hq0:qs.length=0:=by omega
    have Hno:Hid (-10000000000≤(1:Int)∧(1:Int)≤10000000000):=by show _∧_;omega
    have sS:=Z9 hq0;go_upto_region 8 with fail
    clear hl0 hq0 sS;have sS:Hid (qs.length=qs.length):=rfl;(try rw [sS.out] at S)
    go_wp2_with fail
    refine (Tv b _ 1 _ S.g.s (by omega) Hno.out (HN.out.keep S.g.k hNb) hNb (HP.out.keep S.g.k hPb) hPb).mono ?_;rintro e w3 ⟨t,A1,c1,B1,d1,rfl,ht,T⟩;have S3:=S.join T;obtain ⟨Y,hY⟩:∃ Y,Y=w3.heap.size:=⟨_,rfl⟩;have S4:St b (m + 600 * k + 502) w _ [.own lX w.heap.size 58 (.slice A (qs.length) c) qs,.jL qs,.sl aO A1 t.ids,.sl bK B1 t.aB,.loc Y (aS t A1 c1 B1 d1) 58]:=(S3.newAt (aS t A1 c1 B1 d1) 58 Y hY).mono (by omega);have Ht:=Z9 ht;clear S S3 T ht;go_upto_region 9 with fail
    rw [← hY];clear hY;generalize w3.alloc (.cells (aS t A1 c1 B1 d1) 58)=w4 at *;obtain ⟨A9,c9,e9,S5⟩:=((S4.newAt (aS t A1 c1 B1 d1) 58 w4.heap.size rfl).sQ sK 5 rfl [(⟨t,A1,c1,B1,d1⟩:TQ)] rfl rfl (by simp) rfl 1 rfl).cO 5 rfl;cases e9;have S6:=S5.call (G.start S5.g.s) (.jL []) (fun q hq=>by cases hq) (fun k e=>by cases e);have S7:=(S6.J5 6 2 3 rfl rfl rfl ⟨t,A1,c1,B1,d1⟩ rfl rfl rfl rfl).Jv 5 6 rfl rfl;replace S7:St b (m + 600 * k + 502) w (w4.alloc (.cells (aS t A1 c1 B1 d1) 58)) [.own lX w.heap.size 58 (.slice A (qs.length) c) qs,.jL qs,.sl aO A1 t.ids,.sl bK B1 t.aB,.loc Y (aS t A1 c1 B1 d1) 58,.sl fU (some ⟨w4.heap.size,0,none⟩) [t],.jL [⟨t,A1,c1,B1,d1⟩]]:=S7;have iJ:=HT.out _ _ S7.g;have Hc:Hid (Calls Tryz.prog 28 #[.slice (some ⟨w4.heap.size,0,none⟩) 1 1] (w4.alloc (.cells (aS t A1 c1 B1 d1) 58)) fun e w'=>e=.returned (.int .i64 (gJ t 0))∧Below (w4.alloc (.cells (aS t A1 c1 B1 d1) 58)).heap.size (w4.alloc (.cells (aS t A1 c1 B1 d1) 58)) w'):=by
     have:=FT (fun _=>False) (some ⟨w4.heap.size,0,none⟩) [t] 1 _ ((S7.slc 5 rfl).mono (fun _ _ h=>h.elim)) ⟨by simp,fun x hx=>by rw [List.mem_singleton.1 hx];exact Ht.out.ok⟩ iJ.1 iJ.2
     rw [aa7] at this;exact this
    obtain ⟨E,HE⟩:∃ E,Hid (gJ t 0=E):=⟨_,Z9 rfl⟩;rw [HE.out] at Hc;have y4:=(S4.lv 4 rfl).all;clear iJ S4 S5 S6;go_wp2_with fail
    refine (Hc.out).mono ?_;rintro e w5 ⟨rfl,hl5⟩;have S:=S7.below hl5;clear Hc S7 y4 hl5;have y4:=(S.lv 4 rfl).all;by_cases h0:E=0
    ·have h1:(E==0)=true:=by simpa using h0
     have Kv:Hid (gJ t 0=0):=by show _=_;rw [HE.out,h0]
     clear h0 HE;by_cases h2:t.no=1
     ·have h3:(t.no==1)=true:=by simpa using h2
      clear h2;have hsz:=S.g.size;have jG:qs.length≤200:=by have:=bY.out;omega
      go_wp2_with (at_builtin;refine S.app 0 rfl Ti rfl _ _ rfl (⟨t,A1,c1,B1,d1⟩:TQ) 1 rfl rfl rfl (Tj ⟨t,A1,c1,B1,d1⟩) hsz (by omega) (by decide) ?_;intro v' w10 S6;obtain ⟨A6,c6,rfl⟩:=(S6.ow 0 rfl).len)
      have S8:=(((((S6.J5 1 2 3 rfl rfl rfl ⟨t,A1,c1,B1,d1⟩ rfl rfl rfl rfl).del 6).del 5).del 4).del 3).del 2;go_roundw
      case rel =>
       refine ⟨k + 1,A6,c6,qs++[⟨t,A1,c1,B1,d1⟩],by omega,by go_num,by simp,by show _≤_;simp;have:=bY.out;omega,?_,S8.mono (by omega)⟩;intro q hq;rcases List.mem_append.1 hq with hq | hq
       ·exact dV.out q hq
       ·rw [List.mem_singleton.1 hq];exact ⟨Ht.out,Kv.out⟩
      case measure=>simp [intOf];omega
     ·have h3:(t.no==1)=false:=by simpa using h2
      clear h2;have S8:=((((S.del 6).del 5).del 4).del 3).del 2;go_wp2_with fail
      go_roundw
      case rel=>exact ⟨k + 1,A,c,qs,by omega,by go_num,by first | rfl | rw [sS.out],by show _≤_;have:=bY.out;omega,dV.out,by first | exact S8.mono (by omega) | (rw [sS.out];exact S8.mono (by omega))⟩
      case measure=>simp [intOf];omega
    ·have h1:(E==0)=false:=by simpa using h0
     clear h0;have S8:=((((S.del 6).del 5).del 4).del 3).del 2;go_wp2_with fail
     go_roundw
     case rel=>exact ⟨k + 1,A,c,qs,by omega,by go_num,by first | rfl | rw [sS.out],by show _≤_;have:=bY.out;omega,dV.out,by first | exact S8.mono (by omega) | (rw [sS.out];exact S8.mono (by omega))⟩
     case measure=>simp [intOf];omega
  ·have hkk:k=n:=by omega
   subst hkk;go_wp2_with fail
   go_ret;exact ⟨_,qs,rfl,bY.out,dV.out,S.mono (by omega)⟩
end
section
open Go.RowKit
theorem aib:far ⟨#[107,105,116,116,101,110]⟩ ⟨#[115,105,116,116,105,110,103]⟩=3:=by decide +kernel
theorem aic:Q.quote [32]=[34,92,120,50,48,34]:=by decide +kernel
theorem adG (w:World)(hT:Tabs w):Calls Tryz.prog 12 #[] w fun e w'=>e=.returned (.bool true)∧Below w.heap.size w w':=by
 have Hd:Hid (Calls Tryz.prog 63 #[.string ⟨#[107,105,116,116,101,110]⟩,.string ⟨#[115,105,116,116,105,110,103]⟩] w fun e w'=>e=.returned (.tuple #[.int .i64 3,.int .i64 0])∧Below w.heap.size w w') :=
  (aie _ _ w (by simp [ByteArray.size]) (by simp [ByteArray.size]) hT).mono fun e w' ⟨h1,h2⟩=>⟨by rw [h1,aib];rfl,h2⟩
 have Hq:Hid (∀ w',Calls Tryz.prog 64 #[.string ⟨#[32]⟩] w' fun e w''=>e=.returned (.string ⟨#[34,92,120,50,48,34]⟩)∧Below w'.heap.size w' w''):=fun w' =>
  (aif _ w' (by simp [ByteArray.size])).mono fun e w'' ⟨h1,h2⟩=>⟨by rw [h1,aic],h2⟩
 clear hT;go_enter Tryz.func12,Tryz.ntmps12
 go_wp2_with fail
 refine Hd.out.mono ?_;rintro e w1 ⟨rfl,hl1⟩;have hz1:=hl1.size;go_wp2_with fail
 refine (Hq.out _).mono ?_;rintro e w2 ⟨rfl,hl2⟩;go_wp2_with fail
 go_ret;exact ⟨rfl,hl1.trans (hl2.mono (by omega))⟩
end
end Go.Proofs.YtmkkppknaikjjaaGreatDoor
