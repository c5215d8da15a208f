/- Several texts in one: CutLaw, CutsL, Keyed, CutsM. -/
import Derived.Test.YtfdcgedcfafmcaaGreatDoorPackT
import Derived.Test.YtfdcgedcfafmcaaGreatDoorPackD
import Derived.Test.YtfdcgedcfafmcaaGreatDoorPackK
import Derived.Test.YtfdcgedcfafmcaaGreatDoorPackN
import Derived.Test.YtfdcgedcfafmcaaGreatDoorPackU
import Derived.Test.YtfdcgedcfafmcaaGreatDoorPackX
import Derived.Test.YtfdcgedcfafmcaaGreatDoorPackI
import Derived.Test.YtfdcgedcfafmcaaGreatDoorPackJ
import Derived.Test.YtfdcgedcfafmcaaGreatDoorPackZ
import Derived.Test.YtfdcgedcfafmcaaGreatDoorPackM
/- The plain law of Cuts: an id without which a person is several, seen in the person's own touches and in all of them. No program is in sight. -/
namespace Go.Proofs.YtfdcgedcfafmcaaGreatDoor
section
open Go Go.RowKit
structure OwnOf (l:List Tch) (at':List Nat) (own:List Tch):Prop where
 len:own.length=at'.length
 get:∀ (a i:Nat),at'[a]? =some i→own[a]? =l[i]?
theorem OwnOf.ids {l own:List Tch}{at':List Nat}(h:OwnOf l at' own){a i:Nat}(ha:at'[a]? =some i):idsAt own a=idsAt l i:=by unfold idsAt;rw [h.get a i ha]
structure InRules (r:Rul) (l:List Tch) (at':List Nat) (own:List Tch) (r':Rul):Prop where
 kinds:r'.kinds=r.kinds
 weak:∀ x,(∃ i∈at',x∈idsAt l i)→(x∈r'.weak ↔ x∈r.weak∨r.most < ((hav l x).length:Int))
 most:(own.length:Int)≤r'.most
theorem InRules.joins {r r':Rul}{l own:List Tch}{at':List Nat}(h:InRules r l at' own r'){x:IdV}(hx:∃ i∈at',x∈idsAt l i):joinsP r' own x=joinsP r l x:=by
 have h1:decide (((hav own x).length:Int)≤r'.most)=true:=by
  have:=hav_len own x
  have:=h.most
  simp only [decide_eq_true_eq]
  omega
 unfold joinsP;rw [h1,Bool.and_true,h.kinds];have h2:=h.weak x hx;by_cases hk:x.k∈r.kinds
 ·rw [decide_eq_true hk,Bool.true_and,Bool.true_and];by_cases hw:x∈r.weak
  ·rw [decide_eq_true (h2.2 (.inl hw)),decide_eq_true hw];rfl
  ·rw [decide_eq_false hw];by_cases hm:r.most < ((hav l x).length:Int)
   ·rw [decide_eq_true (h2.2 (.inr hm)),decide_eq_false (by omega)];rfl
   ·rw [decide_eq_false (fun e=>(h2.1 e).elim hw hm),decide_eq_true (by omega)];rfl
 ·rw [decide_eq_false hk];rfl
section
variable {r r':Rul} {l own:List Tch} {c:Nat→Nat} {hd:Nat} {at':List Nat} {x:IdV}
structure PartOf (r:Rul) (l:List Tch) (c:Nat→Nat) (hd:Nat) (at':List Nat):Prop where
 part:IsPart l.length (Edge r l) c
 top:hd < l.length∧c hd=hd
 mem:∀ i,i∈at' ↔ i < l.length∧c i=hd
 up:at'.Pairwise (· < ·)
theorem PartOf.head (h:PartOf r l c hd at'):at'[0]? =some hd:=by
 have hm:hd∈at':=(h.mem hd).2 h.top;cases ha:at' with
 | nil=>rw [ha] at hm;cases hm
 | cons a t =>
  have h1:=(h.mem a).1 (by rw [ha];exact List.mem_cons_self ..);have h2:=h.part.le a h1.1;rw [h1.2] at h2;have hu:=h.up;rw [ha] at hm hu;rcases List.mem_cons.1 hm with e | e
  ·rw [e];rfl
  ·have:=(List.pairwise_cons.1 hu).1 hd e
   omega
end
end
section
open Go Go.RowKit
def CutP (r:Rul)(ts:List Tch)(at':List Nat)(hd:Nat)(x:IdV):Prop:=joinsP r ts x=true∧∃ e,IsPart ts.length (EdgeX r ts (some x)) e∧¬ ∀ i∈at',e i=hd
open Classical in
noncomputable def cutB (r:Rul) (ts:List Tch) (at':List Nat) (hd:Nat) (x:IdV):Bool:=decide (CutP r ts at' hd x)
open Classical in
noncomputable def cutsL (r:Rul) (ts:List Tch) (cc:Nat→Nat) (hd:Nat):List IdV:=(srtId ((partAt cc ts.length hd).flatMap (idsAt ts))).filter (cutB r ts (partAt cc ts.length hd) hd)
def NoUp (ts:List Tch):Prop:=∀ i j,i < j→j < ts.length→noAt ts i < noAt ts j
theorem NoUp.inj {ts:List Tch}(h:NoUp ts){i j:Nat}(hi:i < ts.length)(hj:j < ts.length)(e:noAt ts i=noAt ts j):i=j:=by
 rcases Nat.lt_trichotomy i j with h1 | h1 | h1
 ·have:=h i j h1 hj;omega
 ·exact h1
 ·have:=h j i h1 hi;omega
theorem parts_same {ts:List Tch}(h:NoUp ts){c d:Nat→Nat}{i j:Nat}(e:(partAt c ts.length i).map (noAt ts)=(partAt d ts.length j).map (noAt ts)):partAt c ts.length i=partAt d ts.length j:=by
 have hlt:∀ (c:Nat→Nat) (i k:Nat),k∈partAt c ts.length i→k < ts.length:=fun c i k hk=>by unfold partAt at hk;exact List.mem_range.1 (List.mem_filter.1 hk).1
 have hup:∀ (c:Nat→Nat) (i:Nat),(partAt c ts.length i).Pairwise (· < ·):=fun c i=>by unfold partAt;exact (List.pairwise_lt_range).filter _
 refine strict_eq (fun a b:Nat=>a < b) (fun _=>Nat.lt_irrefl _) (fun _ _ _ h1 h2=>Nat.lt_trans h1 h2) _ _ (hup _ _) (hup _ _) (fun k=>⟨fun hk=>?_,fun hk=>?_⟩)
 ·have h1:noAt ts k∈(partAt d ts.length j).map (noAt ts):=by rw [← e];exact List.mem_map_of_mem hk
  obtain ⟨k2,hk2,e2⟩:=List.mem_map.1 h1;rw [← h.inj (hlt _ _ _ hk2) (hlt _ _ _ hk) e2];exact hk2
 ·have h1:noAt ts k∈(partAt c ts.length i).map (noAt ts):=by rw [e];exact List.mem_map_of_mem hk
  obtain ⟨k2,hk2,e2⟩:=List.mem_map.1 h1;rw [← h.inj (hlt _ _ _ hk2) (hlt _ _ _ hk) e2];exact hk2
def GivesCutsR (r:Rul)(ts:List Tch)(x:IdV)(w:World)(e:Ending)(w':World):Prop :=
 ∃ (A:Option Addr) (c:Nat) (l:List IdV) (F:Int) (cc:Nat→Nat),e=.returned (.tuple #[.slice A l.length c,.int .i64 F])∧Mem w w' [.sl rId A l]∧IsPart ts.length (Edge r ts) cc ∧
  ((kfP (psns r ts cc) x=none∧F=8∧l=[])∨∃ hd∈heads cc ts.length,kfP (psns r ts cc) x=some (psnAt r ts cc hd)∧F=0∧l=cutsL r ts cc hd)
theorem IsKf.form {N:Nat→Prop}{P:List Psn}{x:IdV}{w:World}{cs:Array Value}{b:Bool}(h:IsKf N P x w cs b):∃ k t A n a B m c,cs=#[.int .i64 k,.string t,.slice A n a,.slice B m c]:=by
 rcases h with ⟨_,_,rfl⟩ | ⟨p,A,a,B,b',h1,h2,rfl,_⟩
 ·exact ⟨_,_,_,_,_,_,_,_,rfl⟩
 ·exact ⟨_,_,_,_,_,_,_,_,rfl⟩
theorem kf_head {r:Rul}{ts:List Tch}{cc:Nat→Nat}{x:IdV}{p:Psn}(h:kfP (psns r ts cc) x=some p):∃ hd∈heads cc ts.length,p=psnAt r ts cc hd:=by
 have:=List.mem_of_find?_eq_some h
 unfold psns at this;obtain ⟨hd,h1,h2⟩:=List.mem_map.1 this;exact ⟨hd,h1,h2.symm⟩
end
section
open Go Go.RowKit
abbrev mzCs:Array Value:=#[.int .i64 0,.string ⟨#[]⟩,.slice none 0 0,.slice none 0 0,.slice none 0 0]
theorem results_tctK {P:Program}{fn:Func}{s t r:Tmp}{T:TypeId}{a:Addr}{v u x:Value}{w:World}{tmps:Array Value}(h:fn.results=#[.tmp s,.cell t T,.tmp r])(hp:tmps.getD t undef=.pointer (some a))(hs:tmps.getD s undef=u)(hr:tmps.getD r undef=x)(hl:(loadVar T a).run P w=.ok v w):(results fn tmps).run P w=.ok (.tuple #[u,v,x]) w:=by
 have hp':tmps[t]?.getD undef=.pointer (some a):=by simpa using hp
 have hs':tmps[s]?.getD undef=u:=by simpa using hs
 have hr':tmps[r]?.getD undef=x:=by simpa using hr
 simp [results,h,asAddr,hp',hs',hr',hl]
theorem loadMbK {w:World}{X:Nat}{a b c d e:Value}(h:LV w X #[a,b,c,d,e] 101):(loadVar 101 ⟨X,0,none⟩).run Tryz.prog w=.ok (.agg #[a,b,c,d,e]) w:=by
 have c0:=h.all
 go_simp
def FirstK (ms:List MQ)(x:IdV)(j:Nat)(q:MQ):Prop:=ms[j]? =some q∧q.key=x∧∀ p∈ms.take j,p.key≠x
def GivesKeyed (r:Rul)(K:Option Addr)(ck:Nat)(W:Option Addr)(cw:Nat)(S:Option Addr)(cs:Nat)(A:Option Addr)(c:Nat)(ts:List Tch)(x:IdV)(w:World)(e:Ending)(w':World):Prop :=
 ∃ g zs F,e=.returned (.tuple #[g,.agg zs,.int .i64 F])∧Below w.heap.size w w' ∧
  ((bothF r ts≠0∧F=bothF r ts∧zs=mzCs∧g=.pointer none)∨(bothF r ts=0∧L.idFault x.k x.t≠0∧F=L.idFault x.k x.t∧zs=mzCs∧g=.pointer none) ∨
    (bothF r ts=0∧L.idFault x.k x.t=0∧∃ cc ms,IsPart ts.length (Edge r ts) cc∧IsMembs r ts cc ms ∧
    ((F=8∧zs=mzCs∧g=.pointer none∧∀ p∈ms,p.key≠x) ∨
     (F=0∧∃ G X qs j q,g=.pointer (some ⟨G,0,none⟩)∧Grp (fun _=>False) w' G X r K W S A ck cw cs c ts qs∧FirstK ms x j q∧zs=mqCs q∧Sl rInt (fun _=>False) w' q.A q.tch∧Sl rId (fun _=>False) w' q.B q.ids∧Sl rInt (fun _=>False) w' q.C (iL q.at')))))
theorem FirstK.none {ms:List MQ}{x:IdV}{j:Nat}{q:MQ}(h:∀ p∈ms.take j,p.key≠x)(hq:ms[j]? =some q)(hk:¬ q.key=x):∀ p∈ms.take (j + 1),p.key≠x:=fun p hp=>by
 rw [take_snoc hq] at hp;rcases List.mem_append.1 hp with hp | hp
 ·exact h p hp
 ·rw [List.mem_singleton.1 hp];exact hk
set_option maxHeartbeats 8000000 in
set_option maxRecDepth 100000 in
theorem keyed_any (r:Rul)(K W S A:Option Addr)(ck cw cs c:Nat)(ts:List Tch)(x:IdV)(w:World)(hR:RulIn (fun _=>False) w r K W S)(hT:Sl rTch (fun _=>False) w A ts)(hr:RulOk r)(ht:TchsOk ts)(hx:x.t.size≤1000000)(hU:Tabs w)(hM:MaxL w) :
  Calls Tryz.prog 51 #[.agg (ruCs r K ck W cw S cs),.slice A ts.length c,.agg #[.int .i64 x.k,.string x.t]] w (GivesKeyed r K ck W cw S cs A c ts x w):=by
 obtain ⟨Y,hY⟩:∃ Y,Y=w.heap.size:=⟨_,rfl⟩;have T0:=(Mem.start w).newAt (ruCs r K ck W cw S cs) 29 Y hY;have T1:=T0.newAt #[.int .i64 x.k,.string x.t] 41 (Y + 1) (by rw [hY,World.size_alloc]);have T:Mem w _ [.loc Y (ruCs r K ck W cw S cs) 29,.loc (Y + 1) #[.int .i64 x.k,.string x.t] 41,.loc (Y + 1 + 1) mzCs 101]:=T1.newAt mzCs 101 (Y + 1 + 1) (by rw [hY,World.size_alloc,World.size_alloc]);have Hc:=Lib.hid (fun w' (h:Below w.heap.size w w')=>checkBoth_any (fun _=>False) r K W S A ck cw cs c ts w' (hR.keepB h) (hT.keepB h) hr ht (Utf8Tabs_below hU h) (hM.below h));obtain ⟨F,hF⟩:∃ F,bothF r ts=F:=⟨_,rfl⟩;rw [hF] at Hc;have HF:=Lib.hid hF;have HR:=Lib.hid hR;have HT:=Lib.hid hT;have Hr:=Lib.hid hr;clear hF hR hT hr ht T0 T1
 go_enter Tryz.func51,Tryz.ntmps51
 go_upto_region 1 with fail
 rw [← hY];clear hY;generalize ((w.alloc (.cells (ruCs r K ck W cw S cs) 29)).alloc (.cells #[.int .i64 x.k,.string x.t] 41)).alloc (.cells mzCs 101)=w1 at *;obtain ⟨X,hX⟩:∃ X,X=Y + 1:=⟨_,rfl⟩;obtain ⟨R,hRr⟩:∃ R,R=X + 1:=⟨_,rfl⟩;rw [← hX,← hRr] at T ⊢;clear hX hRr;have y0:=(T.lv 0 rfl).all
 go_wp2_with fail
 ((with_reducible refine (Hc.out w1 T.b).mono ?_);rintro e w2 ⟨rfl,hl2⟩)
 have T2:=T.below hl2;clear y0 Hc hl2 T;by_cases hE:F=0
 ·subst hE;have Hid1:=Lib.hid (checkId_any x.k x.t w2 hx (hM.below T2.b));have l1:=(T2.lv 1 rfl).all;obtain ⟨F1,hF1⟩:∃ F1,L.idFault x.k x.t=F1:=⟨_,rfl⟩;rw [hF1] at Hid1;have HF1:=Lib.hid hF1;clear hF1
  go_wp2_with fail
  ((with_reducible refine (Hid1.out).mono ?_);rintro e w3 ⟨rfl,hl3⟩)
  have T3:=T2.below hl3;clear l1 T2 hl3 Hid1;by_cases hE1:F1=0
  ·subst hE1;have Ho:Hid (RtOk r ts):=RtOk.both HF.out Hr.out;have Hn:=Lib.hid (fun w' (h:Below w.heap.size w w')=>newGroup_any (fun _=>False) r K W S A ck cw cs c ts w' (HT.out.keepB h) Ho.out.tl (fun t h=>(Ho.out.up t h).nodup) Ho.out.il);have l0:=(T3.lv 0 rfl).all
   go_wp2_with fail
   ((with_reducible refine (Hn.out _ T3.b).mono ?_);rintro e wg ⟨G,Xg,qs,rfl,T4,hH⟩)
   have Hm:=Lib.hid (members_any (fun _=>False) G Xg r K W S A ck cw cs c ts qs wg (grp_of T4.b (HR.out.keepB T3.b) (HT.out.keepB T3.b) T4 hH) Ho.out);obtain ⟨gs,hgs⟩:∃ gs,gs=Chunk.loc G (grCs r K ck W cw S cs A ts.length c Xg) 159::havC w3.heap.size Xg qs:=⟨_,rfl⟩;have S4:Mem w wg ([.loc Y (ruCs r K ck W cw S cs) 29,.loc X #[.int .i64 x.k,.string x.t] 41,.loc R mzCs 101]++gs):=by rw [hgs];exact T3.join T4
   have HH:=Lib.hid hH;have Hgs:=Lib.hid hgs;clear l0 T3 T4 hH hgs Hn
   go_wp2_with fail
   ((with_reducible refine (Hm.out).mono ?_);rintro e wm ⟨Aq,cq,cc,ms,rfl,hp,hm,T5⟩)
   have S0:Mem w wm (.loc Y (ruCs r K ck W cw S cs) 29::.loc X #[.int .i64 x.k,.string x.t] 41::.loc R mzCs 101::.sl rMQ Aq ms::.mdat ms::gs):=(S4.join T5).perm (by
    rw [List.append_assoc];exact List.Perm.append_left [_,_,_] (List.perm_append_comm (l₂:=[Chunk.sl rMQ Aq ms,Chunk.mdat ms])))
   have Hp:=Lib.hid hp;have Hml:=Lib.hid hm;have hmsl:ms.length≤1000000:=by have:=hm.len;have:=Ho.out.tl;omega
   clear S4 T5 hp hm Hm
   go_wp2_with fail
   go_loopw [33] (fun i wr=>∃ j:Nat,j≤ms.length∧i=.int .i64 j∧Hid (∀ p∈ms.take j,p.key≠x)∧Mem w wr (.loc Y (ruCs r K ck W cw S cs) 29::.loc X #[.int .i64 x.k,.string x.t] 41::.loc R mzCs 101::.sl rMQ Aq ms::.mdat ms::gs)) (fun i _=>ms.length - (intOf i).toNat)
   case atStart=>exact ⟨0,Nat.zero_le _,rfl,(by show ∀ p∈_,_;simp),S0⟩
   case round =>
    clear S0;obtain ⟨j,hj,rfl,Hf,S0⟩:=hrel;by_cases hlt:j < ms.length
    ·obtain ⟨q,hq⟩:∃ q,ms[j]? =some q:=⟨_,List.getElem?_eq_getElem hlt⟩;obtain ⟨b1,o1,rfl,hb1,c0,c1,c2,c3,c4⟩:=(S0.slc 3 rfl).mq j q hq;have Hq:=Lib.hid hq;clear hq;obtain ⟨U,hU⟩:∃ U,U=wr.heap.size:=⟨_,rfl⟩;have S2:Mem w (wr.alloc (.cells (mqCs q) 101)) (.loc U (mqCs q) 101::.loc Y (ruCs r K ck W cw S cs) 29::.loc X #[.int .i64 x.k,.string x.t] 41::.loc R mzCs 101::.sl rMQ (some ⟨b1,o1,none⟩) ms::.mdat ms::gs):=(S0.newAt (mqCs q) 101 U hU).front
     go_upto_region 11 with fail
     rw [← hU];clear hU S0 c0 c1 c2 c3 c4;generalize wr.alloc (.cells (mqCs q) 101)=w4 at *;have l0:=(S2.lv 0 rfl).all;have l2:=(S2.lv 2 rfl).all;rcases idv_cmp q.key x with ⟨hke,h1,h2⟩ | ⟨hke,h1⟩ | ⟨hke,h1,h2⟩
     ·have Hke:=Lib.hid hke;have l3:=(S2.lv 3 rfl).all;clear hke
      go_wp2_with fail
      have HS2:=Lib.hid S2;clear S2
      go_region
      go_wp2_with fail
      have S8:=((((HS2.out.set 3 0 (.int .i64 q.key.k) rfl).set 3 1 (.string q.key.t) rfl).set 3 2 (.slice q.A q.tch.length q.a) rfl).set 3 3 (.slice q.B q.ids.length q.b) rfl).set 3 4 (.slice q.C q.at'.length q.c) rfl;have S9:=S8.below (w':=World.drew _) ((Below.refl _ _).drew);have hmd:MdOk _ _ ms:=S9.ok (.mdat ms) (.tail _ (.tail _ (.tail _ (.tail _ (.tail _ (.head _))))));have hmq:=hmd q (List.mem_of_getElem? Hq.out);have SG:=(((((S9.del 0).del 0).del 0).del 0).del 0).del 0;have hG:=grp_of (B:=w3.heap.size) SG.b HR.out HT.out (by rw [← show gs=_ from Hgs.out];exact SG) HH.out;have HG:=Lib.hid hG;have Hmq:=Lib.hid hmq;exact bodyPost_ret (results_tctK rfl rfl rfl rfl (loadMbK (S9.lv 3 rfl))) rfl ⟨_,_,0,rfl,S9.b,.inr (.inr ⟨HF.out,HF1.out,cc,ms,Hp.out,Hml.out,.inr ⟨rfl,G,Xg,qs,j,q,rfl,HG.out,⟨Hq.out,Hke.out,Hf.out⟩,rfl,Hmq.out.1.mono (fun _ _ h=>h.elim),Hmq.out.2.1.mono (fun _ _ h=>h.elim),Hmq.out.2.2.mono (fun _ _ h=>h.elim)⟩⟩)⟩
     ·have Hn:=Lib.hid (FirstK.none Hf.out Hq.out hke);clear hke Hf
      go_wp2_with fail
      go_roundw
      case rel=>exact ⟨j + 1,by omega,by go_num,Hn.out,S2.del 0⟩
      case measure=>simp [intOf];omega
     ·have Hn:=Lib.hid (FirstK.none Hf.out Hq.out hke);clear hke Hf
      go_wp2_with fail
      go_roundw
      case rel=>exact ⟨j + 1,by omega,by go_num,Hn.out,S2.del 0⟩
      case measure=>simp [intOf];omega
    ·obtain rfl:j=ms.length:=by omega
     have Hall:Hid (∀ p∈ms,p.key≠x):=by have:=Hf.out;rw [List.take_length] at this;exact this
     have l2:=(S0.lv 2 rfl).all;have S9:=((((S0.set 2 0 (.int .i64 0) rfl).set 2 1 (.string ⟨#[]⟩) rfl).set 2 2 (.slice none 0 0) rfl).set 2 3 (.slice none 0 0) rfl).set 2 4 (.slice none 0 0) rfl;clear Hf
     go_wp2_with fail
     exact bodyPost_ret (results_tctK rfl rfl rfl rfl (loadMbK (S9.lv 2 rfl))) rfl ⟨_,_,8,rfl,S9.b,.inr (.inr ⟨HF.out,HF1.out,cc,ms,Hp.out,Hml.out,.inl ⟨rfl,rfl,rfl,Hall.out⟩⟩)⟩
  ·have h1:(F1 != 0)=true:=by simpa using hE1
   have Hf1:=Lib.hid hE1;have l2:=(T3.lv 2 rfl).all;have S9:=((((T3.set 2 0 (.int .i64 0) rfl).set 2 1 (.string ⟨#[]⟩) rfl).set 2 2 (.slice none 0 0) rfl).set 2 3 (.slice none 0 0) rfl).set 2 4 (.slice none 0 0) rfl;clear hE1
   go_wp2_with fail
   exact bodyPost_ret (results_tctK rfl rfl rfl rfl (loadMbK (S9.lv 2 rfl))) rfl ⟨_,_,F1,rfl,S9.b,.inr (.inl ⟨HF.out,by rw [HF1.out];exact Hf1.out,HF1.out.symm,rfl,rfl⟩)⟩
 ·have h1:(F != 0)=true:=by simpa using hE
  have Hf1:=Lib.hid hE;have l2:=(T2.lv 2 rfl).all;have S9:=((((T2.set 2 0 (.int .i64 0) rfl).set 2 1 (.string ⟨#[]⟩) rfl).set 2 2 (.slice none 0 0) rfl).set 2 3 (.slice none 0 0) rfl).set 2 4 (.slice none 0 0) rfl;clear hE
  go_wp2_with fail
  exact bodyPost_ret (results_tctK rfl rfl rfl rfl (loadMbK (S9.lv 2 rfl))) rfl ⟨_,_,F,rfl,S9.b,.inl ⟨by rw [HF.out];exact Hf1.out,HF.out.symm,rfl,rfl⟩⟩
end
section
open Go Go.RowKit
abbrev zTQ:TQ:=⟨⟨0,0,⟨#[]⟩,[],[]⟩,none,0,none,0⟩
theorem Mem.putTQ {w0 w:World}{cs:List Chunk}(S:Mem w0 w cs)(i:Nat){B E g n cap:Nat}{ys:List TQ}(hi:cs[i]? =some (.own rTQ B E (.slice (some ⟨g,0,none⟩) n cap) ys))(hn:n=ys.length)(p:Nat)(z x:TQ)(hz:ys[p]? =some z) :
  Mem w0 (((((w.setCell ⟨g,p * 5,none⟩ (.int .i64 x.t.no)).setCell ⟨g,p * 5 + 1,none⟩ (.int .i64 x.t.at')).setCell ⟨g,p * 5 + 2,none⟩ (.string x.t.src)).setCell ⟨g,p * 5 + 3,none⟩ (.slice x.A x.t.ids.length x.c)).setCell ⟨g,p * 5 + 4,none⟩ (.slice x.B x.t.flds.length x.d)) (cs.set i (.own rTQ B E (.slice (some ⟨g,0,none⟩) n cap) (ys.set p x))):=by
 have hp:=lt_of_get hz;have hci:i < cs.length:=lt_of_get hi;have S1:=S.put flatTQ i hi hn p z (⟨⟨x.t.no,z.t.at',z.t.src,z.t.ids,z.t.flds⟩,z.A,z.c,z.B,z.d⟩:TQ) hz 0 (by decide) (.int .i64 x.t.no) rfl;have S2:=S1.put flatTQ i (by rw [List.getElem?_set_self hci]) (by rw [List.length_set];exact hn) p (⟨⟨x.t.no,z.t.at',z.t.src,z.t.ids,z.t.flds⟩,z.A,z.c,z.B,z.d⟩:TQ) (⟨⟨x.t.no,x.t.at',z.t.src,z.t.ids,z.t.flds⟩,z.A,z.c,z.B,z.d⟩:TQ) (by rw [List.getElem?_set_self hp]) 1 (by decide) (.int .i64 x.t.at') rfl;simp only [List.set_set] at S2
 have S3:=S2.put flatTQ i (by rw [List.getElem?_set_self hci]) (by rw [List.length_set];exact hn) p (⟨⟨x.t.no,x.t.at',z.t.src,z.t.ids,z.t.flds⟩,z.A,z.c,z.B,z.d⟩:TQ) (⟨⟨x.t.no,x.t.at',x.t.src,z.t.ids,z.t.flds⟩,z.A,z.c,z.B,z.d⟩:TQ) (by rw [List.getElem?_set_self hp]) 2 (by decide) (.string x.t.src) rfl;simp only [List.set_set] at S3
 have S4:=S3.put flatTQ i (by rw [List.getElem?_set_self hci]) (by rw [List.length_set];exact hn) p (⟨⟨x.t.no,x.t.at',x.t.src,z.t.ids,z.t.flds⟩,z.A,z.c,z.B,z.d⟩:TQ) (⟨⟨x.t.no,x.t.at',x.t.src,x.t.ids,z.t.flds⟩,x.A,x.c,z.B,z.d⟩:TQ) (by rw [List.getElem?_set_self hp]) 3 (by decide) (.slice x.A x.t.ids.length x.c) rfl;simp only [List.set_set] at S4
 have S5:=S4.put flatTQ i (by rw [List.getElem?_set_self hci]) (by rw [List.length_set];exact hn) p (⟨⟨x.t.no,x.t.at',x.t.src,x.t.ids,z.t.flds⟩,x.A,x.c,z.B,z.d⟩:TQ) x (by rw [List.getElem?_set_self hp]) 4 (by decide) (.slice x.B x.t.flds.length x.d) rfl;simp only [List.set_set] at S5
 exact S5
section
variable {r r':Rul} {l own:List Tch} {c:Nat→Nat} {hd:Nat} {at':List Nat} {x:IdV}
end
theorem memb_at {r:Rul}{l:List Tch}{c:Nat→Nat}{ms:List MQ}(h:IsMembs r l c ms){j:Nat}{q:MQ}(hq:ms[j]? =some q):∃ hd∈heads c l.length,q.psn=psnAt r l c hd∧q.at'=partAt c l.length hd:=by
 have h1:(ms.map MQ.raw)[j]? =some q.raw:=by rw [List.getElem?_map,hq];rfl
 rw [h] at h1;obtain ⟨row,hrow,e⟩:=List.mem_map.1 (List.mem_of_getElem? h1);unfold mRows at hrow;obtain ⟨hd,hh,rfl⟩:=List.mem_map.1 hrow;refine ⟨hd,hh,?_,(congrArg (fun t=>t.2.2.2) e).symm⟩;have e1:q.psn=(⟨q.raw.1,q.raw.2.1,q.raw.2.2.1⟩:Psn):=rfl;rw [e1,← e];rfl
theorem kf_first {r:Rul}{l:List Tch}{c:Nat→Nat}{ms:List MQ}{x:IdV}(h:IsMembs r l c ms){j:Nat}{q:MQ}(hf:FirstK ms x j q):kfP (psns r l c) x=some q.psn:=by
 obtain ⟨hq,hk,hb⟩:=hf;rw [← h.are];unfold kfP;rw [List.find?_map];obtain ⟨hj,e⟩:=List.getElem?_eq_some_iff.1 hq;have:ms.find? ((fun p:Psn=>decide (p.key=x)) ∘ MQ.psn)=some q:=by
  rw [List.find?_eq_some_iff_append];refine ⟨by simp [MQ.psn,hk],ms.take j,ms.drop (j + 1),?_,fun p hp=>by show (!decide (p.key=x))=true;rw [decide_eq_false (hb p hp)];rfl⟩;rw [← e,List.getElem_cons_drop,List.take_append_drop]
 rw [this];rfl
theorem kf_none {r:Rul}{l:List Tch}{c:Nat→Nat}{ms:List MQ}{x:IdV}(h:IsMembs r l c ms)(hf:∀ p∈ms,p.key≠x):kfP (psns r l c) x=none:=by
 rw [← h.are];unfold kfP;rw [List.find?_eq_none];intro p hp;obtain ⟨q,hq,rfl⟩:=List.mem_map.1 hp;exact fun h=>hf q hq (of_decide_eq_true h)
def GivesCutsP (r:Rul)(ts:List Tch)(x:IdV)(w:World)(e:Ending)(w':World):Prop :=
 ∃ (A:Option Addr) (c:Nat) (l:List IdV) (F:Int),e=.returned (.tuple #[.slice A l.length c,.int .i64 F])∧Mem w w' [.sl rId A l] ∧
  ((bothF r ts≠0∧F=bothF r ts∧l=[])∨(bothF r ts=0∧L.idFault x.k x.t≠0∧F=L.idFault x.k x.t∧l=[]) ∨
    (bothF r ts=0∧L.idFault x.k x.t=0∧∃ cc,IsPart ts.length (Edge r ts) cc ∧
    ((kfP (psns r ts cc) x=none∧F=8∧l=[])∨∃ hd∈heads cc ts.length,kfP (psns r ts cc) x=some (psnAt r ts cc hd)∧F=0∧l=cutsL r ts cc hd)))
end
end Go.Proofs.YtfdcgedcfafmcaaGreatDoor
