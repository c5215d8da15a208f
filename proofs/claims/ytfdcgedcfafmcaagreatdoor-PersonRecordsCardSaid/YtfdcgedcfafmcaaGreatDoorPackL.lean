/- Several texts in one: GenRR, GenRT, People. -/
import Derived.Test.YtfdcgedcfafmcaaGreatDoorPackK
import Derived.Test.YtfdcgedcfafmcaaGreatDoorPackC
import Derived.Test.YtfdcgedcfafmcaaGreatDoorPackJ
import Derived.Test.YtfdcgedcfafmcaaGreatDoorPackV
/- What the generator RightRules makes: rules without a fault. -/
namespace Go.Proofs.YtfdcgedcfafmcaaGreatDoor
section
open Go Go.RowKit
def DrawsRR (b m:Nat)(w:World)(e:Ending)(w':World):Prop:=∃ (r:Rul) (K:Option Addr) (ck:Nat) (W:Option Addr) (cw:Nat) (S:Option Addr) (cs:Nat),
 e=.returned (.agg (ruCs r K ck W cw S cs))∧RulSm r∧rulFault r=0∧St b m w w' [.sl rInt K r.kinds,.sl rId W r.weak,.sl rSrv S r.surv]
abbrev rul12:Rul:=⟨[1,2],3,[],[]⟩
theorem rul12_small:RulSm rul12:=⟨by decide,by decide,(fun x hx=>by cases hx),by decide,(fun s hs=>by cases hs)⟩
theorem rul12_ok:rulFault rul12=0:=by decide
set_option maxHeartbeats 8000000 in
set_option maxRecDepth 100000 in
theorem rightRules_any (b m B:Nat)(w:World)(hs:Strm b m w)(hm:m≤1000000)(hN:Names w)(hNb:0≠b)(hP:Pool w)(hPb:1≠b)(hB:B≤b)(hBw:B≤w.heap.size)(hT:∀ w',Below B w w'→Tabs w'∧MaxL w') :
  Calls Tryz.prog 28 #[.pointer (some ⟨b,0,none⟩)] w (DrawsRR b (m + 6000) w):=by
 have S:=(St.start hs).new' jzCs 29;replace S:St b m w (w.alloc (.cells jzCs 29)) [.loc w.heap.size jzCs 29]:=S;have HN:=Lib.hid hN;have HP:=Lib.hid hP;have HT:Hid (∀ n w',G b n w w'→Tabs w'∧MaxL w'):=fun n w' h=>hT w' (h.k.below hB hBw);clear hs hN hP hT hB hBw;obtain ⟨R,hR⟩:∃ R,R=w.heap.size:=⟨_,rfl⟩;rw [← hR] at S
 go_enter Tryz.func28,Tryz.ntmps28
 go_upto_region 1 with fail
 generalize w.alloc (.cells jzCs 29)=w1 at *;rw [← hR];clear hR
 go_wp2_with fail
 go_loopw [4] (fun s4 wr=>∃ k:Nat,k≤5∧s4=.int .i64 k∧St b (m + 1000 * k) w wr [.loc R jzCs 29]) (fun s4 _=>5 - (intOf s4).toNat)
 case atStart=>exact ⟨0,Nat.zero_le _,rfl,S.mono (by omega)⟩
 case round =>
  clear S;obtain ⟨k,hk,rfl,S⟩:=hrel;by_cases hlt5:k < 5
  ·go_wp2_with fail
   ((with_reducible refine (joinRules_any b _ _ S.g.s (by omega) (HN.out.keep S.g.k hNb) hNb (HP.out.keep S.g.k hPb) hPb).mono ?_);rintro e w3 ⟨r,K,ck,W,cw,Sv,cs,rfl,hr,T2⟩)
   have S5:=S.join T2;obtain ⟨Y,hY⟩:∃ Y,Y=w3.heap.size:=⟨_,rfl⟩;have S6:=S5.newAt (ruCs r K ck W cw Sv cs) 29 Y hY;replace S6:St b (m + 1000 * k + 1000) w (w3.alloc (.cells (ruCs r K ck W cw Sv cs) 29)) [.loc R jzCs 29,.sl rInt K r.kinds,.sl rId W r.weak,.sl rSrv Sv r.surv,.loc Y (ruCs r K ck W cw Sv cs) 29]:=S6;have Hr:=Lib.hid hr;clear S S5 T2 hr
   go_upto_region 4 with fail
   rw [← hY];clear hY;generalize w3.alloc (.cells (ruCs r K ck W cw Sv cs) 29)=w4 at *;have hTM:=HT.out _ _ S6.g;have Hc:=Lib.hid (refRules_any (fun _=>False) r K W Sv ck cw cs w4 ⟨(S6.slc 1 rfl).mono (fun _ _ h=>h.elim),(S6.slc 2 rfl).mono (fun _ _ h=>h.elim),(S6.slc 3 rfl).mono (fun _ _ h=>h.elim)⟩ Hr.out.ok hTM.2);obtain ⟨E,HE⟩:∃ E,Hid (rulFault r=E):=⟨_,Lib.hid rfl⟩;rw [HE.out] at Hc;have y4:=(S6.lv 4 rfl).all;clear hTM
   go_wp2_with fail
   ((with_reducible refine (Hc.out).mono ?_);rintro e w5 ⟨rfl,hl5⟩)
   have S:=S6.below hl5;clear Hc S6 y4 hl5;by_cases h0:E=0
   ·have h1:(E==0)=true:=by simpa using h0
    have y0:=(S.lv 0 rfl).all;have y4:=(S.lv 4 rfl).all;have S9:=(((S.set 0 0 (.slice K r.kinds.length ck) rfl).set 0 1 (.int .i64 r.most) rfl).set 0 2 (.slice W r.weak.length cw) rfl).set 0 3 (.slice Sv r.surv.length cs) rfl;have HE0:Hid (rulFault r=0):=by show _=_;rw [HE.out,h0]
    clear h0
    go_wp2_with fail
    exact bodyPost_ret (results_cell1 rfl rfl (loadJr (S9.lv 0 rfl))) rfl ⟨r,K,ck,W,cw,Sv,cs,rfl,Hr.out,HE0.out,((S9.del 4).del 0).mono (by omega)⟩
   ·have h1:(E==0)=false:=by simpa using h0
    clear h0
    go_wp2_with fail
    go_roundw
    case rel=>exact ⟨k + 1,by omega,by go_num,(((((S.del 4).del 3).del 2).del 1)).mono (by omega)⟩
    case measure=>simp [intOf];omega
  ·obtain rfl:k=5:=by omega
   obtain ⟨A1,c1,e1,S1⟩:=((S.newAt #[.int .i64 1,.int .i64 2] 3 wr.heap.size rfl).asOwn flatInt 1 rfl [1,2] rfl rfl (by simp) rfl 2 rfl).frz 1 rfl;cases e1
   replace S1:St b (m + 1000 * 5) w (wr.alloc (.cells #[.int .i64 1,.int .i64 2] 3)) [.loc R jzCs 29,.sl rInt (some ⟨wr.heap.size,0,none⟩) [1,2]]:=S1;clear S;have y0:=(S1.lv 0 rfl).all;have S9:=(((S1.set 0 0 (.slice (some ⟨wr.heap.size,0,none⟩) 2 2) rfl).set 0 1 (.int .i64 3) rfl).set 0 2 (.slice none 0 0) rfl).set 0 3 (.slice none 0 0) rfl;have S10:=S9.del 0;have S11:=S10.call (G.start S10.g.s) (.sl rId none []) Sl.nil (fun k e=>by cases e);have S12:=S11.call (G.start S11.g.s) (.sl rSrv none []) Sl.nil (fun k e=>by cases e)
   go_wp2_with fail
   exact bodyPost_ret (results_cell1 rfl rfl (loadJr (S9.lv 0 rfl))) rfl ⟨rul12,some ⟨wr.heap.size,0,none⟩,2,none,0,none,0,rfl,rul12_small,rul12_ok,S12.mono (by omega)⟩
end
section
open Go Go.RowKit
def DrawsRT (b m n:Nat)(w:World)(e:Ending)(w':World):Prop:=∃ (v:Value) (qs:List TQ),e=.returned v∧qs.length≤n∧(∀ q∈qs,TchSm q.t∧tchFault q.t 0=0)∧St b m w w' [.own rTQ w.heap.size 85 v qs,.tdat qs]
theorem one_fault (t:Tch):tchsFault [t]=tchFault t 0:=by
 unfold tchsFault;rw [if_neg (by simp)];unfold tchsGo;by_cases h:tchFault t 0≠0
 ·rw [if_pos h]
 ·rw [if_neg h,tchsGo];omega
theorem no_ok {t:Tch}{last:Int}(h:tchFault t last=0):1≤t.no∧t.no≤1000000:=by
 unfold tchFault tchE at h;split at h
 ·cases h
 ·rename_i h2
  rw [Bool.not_eq_false,Bool.and_eq_true,decide_eq_true_eq] at h2;exact h2.1
set_option maxHeartbeats 8000000 in
set_option maxRecDepth 100000 in
theorem rightTouches_any (b m n B:Nat)(w:World)(hs:Strm b m w)(hm:m≤1000000)(hn:n≤16)(hN:Names w)(hNb:0≠b)(hP:Pool w)(hPb:1≠b)(hB:B≤b)(hBw:B≤w.heap.size)(hT:∀ w',Below B w w'→Tabs w'∧MaxL w') :
  Calls Tryz.prog 29 #[.pointer (some ⟨b,0,none⟩),.int .i64 n] w (DrawsRT b (m + 600 * n + 10) n w):=by
 have S0:=(St.start hs).nil rTQ w.heap.size 85;have S1:=S0.call (G.start S0.g.s) (.tdat []) (fun q hq=>by cases hq) (fun k e=>by cases e);have S:St b m w w [.own rTQ w.heap.size 85 (.slice none 0 0) [],.tdat []]:=S1;have HN:=Lib.hid hN;have HP:=Lib.hid hP;have HT:Hid (∀ n w',G b n w w'→Tabs w'∧MaxL w'):=fun n w' h=>hT w' (h.k.below hB hBw);clear hs hN hP S0 S1 hT hB hBw
 go_enter Tryz.func29,Tryz.ntmps29
 go_wp2_with fail
 go_loopw [5,10] (fun s5 i wr=>∃ (k:Nat) (A:Option Addr) (c:Nat) (qs:List TQ),k≤n∧i=.int .i64 k∧s5=.slice A qs.length c∧Hid (qs.length≤k)∧Hid (∀ q∈qs,TchSm q.t∧tchFault q.t 0=0)∧St b (m + 600 * k) w wr [.own rTQ w.heap.size 85 (.slice A qs.length c) qs,.tdat qs]) (fun _ i _=>n - (intOf i).toNat)
 case atStart=>exact ⟨0,none,0,[],Nat.zero_le _,rfl,rfl,Nat.le_refl _,by show ∀ _∈_,_;simp,S⟩
 case round =>
  clear S;obtain ⟨k,A,c,qs,hk,rfl,rfl,Hql,Hqs,S⟩:=hrel;by_cases hkn:k < n
  ·by_cases hl0:0 < qs.length
   ·obtain ⟨q,hq⟩:∃ q,qs[qs.length - 1]? =some q:=⟨_,List.getElem?_eq_getElem (by omega)⟩;obtain ⟨l,hl⟩:∃ l,qs.length=l + 1:=⟨qs.length - 1,by omega⟩;have hqn:=no_ok (Hqs.out q (List.mem_of_getElem? hq)).2;have Hql2:=Hql.out;have hql:qs.length≤200:=by omega
    obtain ⟨g,cap,e,hcap⟩:=(S.ow 0 rfl).form (by omega);simp only [Value.slice.injEq] at e
    obtain ⟨rfl,_,rfl⟩:=e;rw [show qs.length - 1=l by omega] at hq
    go_wp2_with fail
    refine wp_region_mix (fun wc=>wc.cell? ⟨g,l * 5,none⟩=some (.int .i64 q.t.no)) [(true,0),(true,1),(true,2),(true,3),(true,4),(true,5),(true,6),(false,7),(false,8),(true,9),(true,10)] (by kernel_rfl) (by kernel_rfl) (fun _ hd=>(((S.below (hd.below _)).ow 0 rfl).tqAt rfl _ q hq).1.1) (fun KK hKK wd hd=>?_);replace S:=S.below (hd.below _);clear hd;have hC0:wd.cell? ⟨g,l * 5,none⟩=some (.int .i64 q.t.no):=((S.ow 0 rfl).tqAt rfl _ q hq).1.1;have hCa:∀ o,(wd.alloc o).cell? ⟨g,l * 5,none⟩=some (.int .i64 q.t.no):=fun o=>(((S.alloc o).ow 0 rfl).tqAt rfl _ q hq).1.1
    repeat (refine mix_p rfl (fun K hK=>?_);go_simp;(try go_bits);(try simp (disch:=omega) only [if_pos]);(try simp (disch:=omega) only [if_neg]);(try simp (disch:=omega) only [dif_pos]);(try simp (disch:=omega) only [dif_neg]);(try go_simp);(refine hK _ ?_;clear hK K))
    refine mix_load (.int .i64 q.t.no) rfl rfl rfl rfl (fun _=>rfl) (fun _ h=>h) ?_
    repeat (refine mix_p rfl (fun K hK=>?_);go_simp;(try go_bits);(try simp (disch:=omega) only [if_pos]);(try simp (disch:=omega) only [if_neg]);(try simp (disch:=omega) only [dif_pos]);(try simp (disch:=omega) only [dif_neg]);(try go_simp);(refine hK _ ?_;clear hK K))
    refine mix_l rfl (fun K hK=>?_) hC0
    go_wp2_with fail
    refine ⟨hCa _,?_⟩;refine mix_l rfl (fun K hK=>?_) (hCa _)
    go_wp2_with fail
    ((with_reducible refine (pick_le b _ _ _ (1) (2) S.g.s (by first | rfl | simp) (by first | rfl | simp) (intsIn_of (by decide)) (by simp) (by simp) (by omega)).mono ?_);rintro e w2 ⟨d,d_lo,d_hi,rfl,hk_w2,hs_w2⟩)
    replace S:=S.step hk_w2 hs_w2;clear hk_w2 hs_w2;have hCc:w2.cell? ⟨g,l * 5,none⟩=some (.int .i64 q.t.no):=((S.ow 0 rfl).tqAt rfl _ q hq).1.1;have hwr:IntKind.i64.wrap (q.t.no + d)=q.t.no + d:=IntWalk.i64_in _ (by omega);obtain ⟨n2,hn2⟩:∃ n2,q.t.no + d=n2:=⟨_,rfl⟩;rw [hn2] at hwr;have Hno:Hid (-10000000000≤n2∧n2≤10000000000):=by show _∧_;omega
    go_wp2_with fail
    refine ⟨hCc,?_⟩;clear hCc hCa hC0
    repeat (refine mix_p rfl (fun K hK=>?_);go_simp;(try go_bits);(try simp (disch:=omega) only [if_pos]);(try simp (disch:=omega) only [if_neg]);(try simp (disch:=omega) only [dif_pos]);(try simp (disch:=omega) only [dif_neg]);(try go_simp);(refine hK _ ?_;clear hK K))
    refine mix_nil ?_;simp only [Exit.then]
    refine hKK _ _ ?_;have Hqe:=Lib.hid hl;clear hqn hq hl hl0 hcap hwr hn2 d_lo d_hi;(try rw [Hqe.out] at S)
    go_wp2_with fail
    ((with_reducible refine (touch_any b _ n2 _ S.g.s (by omega) Hno.out (HN.out.keep S.g.k hNb) hNb (HP.out.keep S.g.k hPb) hPb).mono ?_);rintro e w3 ⟨t,A1,c1,B1,d1,rfl,ht,T⟩)
    have S3:=S.join T;obtain ⟨Y,hY⟩:∃ Y,Y=w3.heap.size:=⟨_,rfl⟩;have S4:St b (m + 600 * k + 502) w _ [.own rTQ w.heap.size 85 (.slice (some ⟨g,0,none⟩) (l + 1) c) qs,.tdat qs,.sl rId A1 t.ids,.sl rFld B1 t.flds,.loc Y (tcCs t A1 c1 B1 d1) 85]:=(S3.newAt (tcCs t A1 c1 B1 d1) 85 Y hY).mono (by omega);have Ht:=Lib.hid ht;clear S S3 T ht
    go_upto_region 9 with fail
    rw [← hY];clear hY;generalize w3.alloc (.cells (tcCs t A1 c1 B1 d1) 85)=w4 at *;obtain ⟨A9,c9,e9,S5⟩:=((S4.newAt (tcCs t A1 c1 B1 d1) 85 w4.heap.size rfl).asOwn flatTQ 5 rfl [(⟨t,A1,c1,B1,d1⟩:TQ)] rfl rfl (by simp) rfl 1 rfl).frz 5 rfl;cases e9
    have S6:=S5.call (G.start S5.g.s) (.tdat []) (fun q hq=>by cases hq) (fun k e=>by cases e);have S7:=(S6.addTd 6 2 3 rfl rfl rfl ⟨t,A1,c1,B1,d1⟩ rfl rfl rfl rfl).tchs 5 6 rfl rfl;replace S7:St b (m + 600 * k + 502) w (w4.alloc (.cells (tcCs t A1 c1 B1 d1) 85)) [.own rTQ w.heap.size 85 (.slice (some ⟨g,0,none⟩) (l + 1) c) qs,.tdat qs,.sl rId A1 t.ids,.sl rFld B1 t.flds,.loc Y (tcCs t A1 c1 B1 d1) 85,.sl rTch (some ⟨w4.heap.size,0,none⟩) [t],.tdat [⟨t,A1,c1,B1,d1⟩]]:=S7;have hTM:=HT.out _ _ S7.g;have Hc:Hid (Calls Tryz.prog 34 #[.slice (some ⟨w4.heap.size,0,none⟩) 1 1] (w4.alloc (.cells (tcCs t A1 c1 B1 d1) 85)) fun e w'=>e=.returned (.int .i64 (tchFault t 0))∧Below (w4.alloc (.cells (tcCs t A1 c1 B1 d1) 85)).heap.size (w4.alloc (.cells (tcCs t A1 c1 B1 d1) 85)) w'):=by
     have:=refTouches_any (fun _=>False) (some ⟨w4.heap.size,0,none⟩) [t] 1 _ ((S7.slc 5 rfl).mono (fun _ _ h=>h.elim)) ⟨by simp,fun x hx=>by rw [List.mem_singleton.1 hx];exact Ht.out.ok⟩ hTM.1 hTM.2
     rw [one_fault] at this;exact this
    obtain ⟨E,HE⟩:∃ E,Hid (tchFault t 0=E):=⟨_,Lib.hid rfl⟩;rw [HE.out] at Hc;have y4:=(S4.lv 4 rfl).all;clear hTM S4 S5 S6
    go_wp2_with fail
    ((with_reducible refine (Hc.out).mono ?_);rintro e w5 ⟨rfl,hl5⟩)
    have S:=S7.below hl5;clear Hc S7 y4 hl5;have y4:=(S.lv 4 rfl).all;by_cases h0:E=0
    ·have h1:(E==0)=true:=by simpa using h0
     have HE0:Hid (tchFault t 0=0):=by show _=_;rw [HE.out,h0]
     clear h0 HE;by_cases h2:t.no=n2
     ·have h3:(t.no==n2)=true:=by simpa using h2
      clear h2;have hsz:=S.g.size;have hql:qs.length≤200:=by have:=Hql.out;omega
      go_wp2_with (at_builtin;refine S.app 0 rfl tyTch rfl _ _ rfl (⟨t,A1,c1,B1,d1⟩:TQ) 1 rfl rfl rfl (oneTQ ⟨t,A1,c1,B1,d1⟩) hsz (by omega) (by decide) ?_;intro v' w10 S6;obtain ⟨A6,c6,rfl⟩:=(S6.ow 0 rfl).len)
      have S8:=(((((S6.addTd 1 2 3 rfl rfl rfl ⟨t,A1,c1,B1,d1⟩ rfl rfl rfl rfl).del 6).del 5).del 4).del 3).del 2
      go_roundw
      case rel =>
       refine ⟨k + 1,A6,c6,qs++[⟨t,A1,c1,B1,d1⟩],by omega,by go_num,by simp,by show _≤_;simp;have:=Hql.out;omega,?_,S8.mono (by omega)⟩;intro q hq;rcases List.mem_append.1 hq with hq | hq
       ·exact Hqs.out q hq
       ·rw [List.mem_singleton.1 hq];exact ⟨Ht.out,HE0.out⟩
      case measure=>simp [intOf];omega
     ·have h3:(t.no==n2)=false:=by simpa using h2
      clear h2;have S8:=((((S.del 6).del 5).del 4).del 3).del 2
      go_wp2_with fail
      go_roundw
      case rel=>exact ⟨k + 1,(some ⟨g,0,none⟩),c,qs,by omega,by go_num,by first | rfl | rw [Hqe.out],by show _≤_;have:=Hql.out;omega,Hqs.out,by first | exact S8.mono (by omega) | (rw [Hqe.out];exact S8.mono (by omega))⟩
      case measure=>simp [intOf];omega
    ·have h1:(E==0)=false:=by simpa using h0
     clear h0;have S8:=((((S.del 6).del 5).del 4).del 3).del 2
     go_wp2_with fail
     go_roundw
     case rel=>exact ⟨k + 1,(some ⟨g,0,none⟩),c,qs,by omega,by go_num,by first | rfl | rw [Hqe.out],by show _≤_;have:=Hql.out;omega,Hqs.out,by first | exact S8.mono (by omega) | (rw [Hqe.out];exact S8.mono (by omega))⟩
     case measure=>simp [intOf];omega
   ·have hq0:qs.length=0:=by omega
    have Hno:Hid (-10000000000≤(1:Int)∧(1:Int)≤10000000000):=by show _∧_;omega
    have Hqe:=Lib.hid hq0
    go_upto_region 8 with fail
    clear hl0 hq0 Hqe;have Hqe:Hid (qs.length=qs.length):=rfl;(try rw [Hqe.out] at S)
    go_wp2_with fail
    ((with_reducible refine (touch_any b _ 1 _ S.g.s (by omega) Hno.out (HN.out.keep S.g.k hNb) hNb (HP.out.keep S.g.k hPb) hPb).mono ?_);rintro e w3 ⟨t,A1,c1,B1,d1,rfl,ht,T⟩)
    have S3:=S.join T;obtain ⟨Y,hY⟩:∃ Y,Y=w3.heap.size:=⟨_,rfl⟩;have S4:St b (m + 600 * k + 502) w _ [.own rTQ w.heap.size 85 (.slice A (qs.length) c) qs,.tdat qs,.sl rId A1 t.ids,.sl rFld B1 t.flds,.loc Y (tcCs t A1 c1 B1 d1) 85]:=(S3.newAt (tcCs t A1 c1 B1 d1) 85 Y hY).mono (by omega);have Ht:=Lib.hid ht;clear S S3 T ht
    go_upto_region 9 with fail
    rw [← hY];clear hY;generalize w3.alloc (.cells (tcCs t A1 c1 B1 d1) 85)=w4 at *;obtain ⟨A9,c9,e9,S5⟩:=((S4.newAt (tcCs t A1 c1 B1 d1) 85 w4.heap.size rfl).asOwn flatTQ 5 rfl [(⟨t,A1,c1,B1,d1⟩:TQ)] rfl rfl (by simp) rfl 1 rfl).frz 5 rfl;cases e9
    have S6:=S5.call (G.start S5.g.s) (.tdat []) (fun q hq=>by cases hq) (fun k e=>by cases e);have S7:=(S6.addTd 6 2 3 rfl rfl rfl ⟨t,A1,c1,B1,d1⟩ rfl rfl rfl rfl).tchs 5 6 rfl rfl;replace S7:St b (m + 600 * k + 502) w (w4.alloc (.cells (tcCs t A1 c1 B1 d1) 85)) [.own rTQ w.heap.size 85 (.slice A (qs.length) c) qs,.tdat qs,.sl rId A1 t.ids,.sl rFld B1 t.flds,.loc Y (tcCs t A1 c1 B1 d1) 85,.sl rTch (some ⟨w4.heap.size,0,none⟩) [t],.tdat [⟨t,A1,c1,B1,d1⟩]]:=S7;have hTM:=HT.out _ _ S7.g;have Hc:Hid (Calls Tryz.prog 34 #[.slice (some ⟨w4.heap.size,0,none⟩) 1 1] (w4.alloc (.cells (tcCs t A1 c1 B1 d1) 85)) fun e w'=>e=.returned (.int .i64 (tchFault t 0))∧Below (w4.alloc (.cells (tcCs t A1 c1 B1 d1) 85)).heap.size (w4.alloc (.cells (tcCs t A1 c1 B1 d1) 85)) w'):=by
     have:=refTouches_any (fun _=>False) (some ⟨w4.heap.size,0,none⟩) [t] 1 _ ((S7.slc 5 rfl).mono (fun _ _ h=>h.elim)) ⟨by simp,fun x hx=>by rw [List.mem_singleton.1 hx];exact Ht.out.ok⟩ hTM.1 hTM.2
     rw [one_fault] at this;exact this
    obtain ⟨E,HE⟩:∃ E,Hid (tchFault t 0=E):=⟨_,Lib.hid rfl⟩;rw [HE.out] at Hc;have y4:=(S4.lv 4 rfl).all;clear hTM S4 S5 S6
    go_wp2_with fail
    ((with_reducible refine (Hc.out).mono ?_);rintro e w5 ⟨rfl,hl5⟩)
    have S:=S7.below hl5;clear Hc S7 y4 hl5;have y4:=(S.lv 4 rfl).all;by_cases h0:E=0
    ·have h1:(E==0)=true:=by simpa using h0
     have HE0:Hid (tchFault t 0=0):=by show _=_;rw [HE.out,h0]
     clear h0 HE;by_cases h2:t.no=1
     ·have h3:(t.no==1)=true:=by simpa using h2
      clear h2;have hsz:=S.g.size;have hql:qs.length≤200:=by have:=Hql.out;omega
      go_wp2_with (at_builtin;refine S.app 0 rfl tyTch rfl _ _ rfl (⟨t,A1,c1,B1,d1⟩:TQ) 1 rfl rfl rfl (oneTQ ⟨t,A1,c1,B1,d1⟩) hsz (by omega) (by decide) ?_;intro v' w10 S6;obtain ⟨A6,c6,rfl⟩:=(S6.ow 0 rfl).len)
      have S8:=(((((S6.addTd 1 2 3 rfl rfl rfl ⟨t,A1,c1,B1,d1⟩ rfl rfl rfl rfl).del 6).del 5).del 4).del 3).del 2
      go_roundw
      case rel =>
       refine ⟨k + 1,A6,c6,qs++[⟨t,A1,c1,B1,d1⟩],by omega,by go_num,by simp,by show _≤_;simp;have:=Hql.out;omega,?_,S8.mono (by omega)⟩;intro q hq;rcases List.mem_append.1 hq with hq | hq
       ·exact Hqs.out q hq
       ·rw [List.mem_singleton.1 hq];exact ⟨Ht.out,HE0.out⟩
      case measure=>simp [intOf];omega
     ·have h3:(t.no==1)=false:=by simpa using h2
      clear h2;have S8:=((((S.del 6).del 5).del 4).del 3).del 2
      go_wp2_with fail
      go_roundw
      case rel=>exact ⟨k + 1,A,c,qs,by omega,by go_num,by first | rfl | rw [Hqe.out],by show _≤_;have:=Hql.out;omega,Hqs.out,by first | exact S8.mono (by omega) | (rw [Hqe.out];exact S8.mono (by omega))⟩
      case measure=>simp [intOf];omega
    ·have h1:(E==0)=false:=by simpa using h0
     clear h0;have S8:=((((S.del 6).del 5).del 4).del 3).del 2
     go_wp2_with fail
     go_roundw
     case rel=>exact ⟨k + 1,A,c,qs,by omega,by go_num,by first | rfl | rw [Hqe.out],by show _≤_;have:=Hql.out;omega,Hqs.out,by first | exact S8.mono (by omega) | (rw [Hqe.out];exact S8.mono (by omega))⟩
     case measure=>simp [intOf];omega
  ·have hkk:k=n:=by omega
   subst hkk
   go_wp2_with fail
   go_ret
   exact ⟨_,qs,rfl,Hql.out,Hqs.out,S.mono (by omega)⟩
end
section
open Go.RowKit
theorem far_kitten:far ⟨#[107,105,116,116,101,110]⟩ ⟨#[115,105,116,116,105,110,103]⟩=3:=by decide +kernel
theorem quote_blank:Q.quote [32]=[34,92,120,50,48,34]:=by decide +kernel
theorem people_any (w:World)(hT:Tabs w):Calls Tryz.prog 9 #[] w fun e w'=>e=.returned (.bool true)∧Below w.heap.size w w':=by
 have Hd:Hid (Calls Tryz.prog 41 #[.string ⟨#[107,105,116,116,101,110]⟩,.string ⟨#[115,105,116,116,105,110,103]⟩] w fun e w'=>e=.returned (.tuple #[.int .i64 3,.int .i64 0])∧Below w.heap.size w w') :=
  (distance_any _ _ w (by simp [ByteArray.size]) (by simp [ByteArray.size]) hT).mono fun e w' ⟨h1,h2⟩=>⟨by rw [h1,far_kitten];rfl,h2⟩
 have Hq:Hid (∀ w',Calls Tryz.prog 42 #[.string ⟨#[32]⟩] w' fun e w''=>e=.returned (.string ⟨#[34,92,120,50,48,34]⟩)∧Below w'.heap.size w' w''):=fun w' =>
  (quote_any _ w' (by simp [ByteArray.size])).mono fun e w'' ⟨h1,h2⟩=>⟨by rw [h1,quote_blank],h2⟩
 clear hT
 go_enter Tryz.func9,Tryz.ntmps9
 go_wp2_with fail
 ((with_reducible refine Hd.out.mono ?_);rintro e w1 ⟨rfl,hl1⟩)
 have hz1:=hl1.size
 go_wp2_with fail
 ((with_reducible refine (Hq.out _).mono ?_);rintro e w2 ⟨rfl,hl2⟩)
 go_wp2_with fail
 go_ret
 exact ⟨rfl,hl1.trans (hl2.mono (by omega))⟩
end
end Go.Proofs.YtfdcgedcfafmcaaGreatDoor
