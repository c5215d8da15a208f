/- Several texts in one: NoUp, NumbS, IdxLaw, Become. -/
import Derived.Test.YtmkkppknaikjjaaGreatDoorPixT
import Derived.Test.YtmkkppknaikjjaaGreatDoorPixU
import Derived.Test.YtmkkppknaikjjaaGreatDoorPixZ
import Derived.Test.YtmkkppknaikjjaaGreatDoorPixB
import Derived.Test.YtmkkppknaikjjaaGreatDoorPixX
import Derived.Test.YtmkkppknaikjjaaGreatDoorPixV
import Derived.Test.YtmkkppknaikjjaaGreatDoorPixD
import Derived.Test.YtmkkppknaikjjaaGreatDoorPixN
import Derived.Test.YtmkkppknaikjjaaGreatDoorPixL
import Derived.Test.YtmkkppknaikjjaaGreatDoorPixO
/- Touches whose numbers rise; a slice of the call's own, told from an older world. -/
namespace Go.Proofs.YtmkkppknaikjjaaGreatDoor
section
open Go Go.RowKit
def NoUp (ts:List Tch):Prop:=∀ i j,i < j→j < ts.length→noAt ts i < noAt ts j
theorem NoUp.inj {ts:List Tch}(h:NoUp ts){i j:Nat}(hi:i < ts.length)(hj:j < ts.length)(e:noAt ts i=noAt ts j):i=j:=by
 rcases Nat.lt_trichotomy i j with h1 | h1 | h1
 ·have:=h i j h1 hj;omega
 ·exact h1
 ·have:=h j i h1 hi;omega
end
section
open Go Go.RowKit
theorem cmpNoS (x y:Int):(Lib.compareInt x y < 0 ↔ x < y)∧(Lib.compareInt x y=0 ↔ x=y):=by
 constructor <;> (unfold Lib.compareInt;split <;> (try split) <;> omega)
theorem numb1S_any (t:Tch)(Ai Bi:Option Addr)(ni c1 nf d1:Nat)(no:Int)(w:World):Calls Tryz.prog 154 #[.agg #[.int .i64 t.no,.int .i64 t.at',.string t.src,.slice Ai ni c1,.slice Bi nf d1],.int .i64 no] w fun e w'=>e=.returned (.int .i64 (Lib.compareInt t.no no))∧Below w.heap.size w w':=by
 have Hb:Hid (Below w.heap.size w (w.alloc (.cells #[.int .i64 t.no,.int .i64 t.at',.string t.src,.slice Ai ni c1,.slice Bi nf d1] 58))):=(Below.refl _ _).alloc (Nat.le_refl _) _;go_enter Tryz.func154,Tryz.ntmps154
 go_wp2_with fail
 refine (cmpInt_any t.no no _).mono ?_;rintro e _ ⟨rfl,rfl⟩;go_wp2_with fail
 go_ret;exact ⟨rfl,Hb.out⟩
def IsPlc (ts:List Tch)(no:Int)(i:Nat)(b:Bool):Prop:=i≤ts.length∧(∀ (p:Nat) s,p < i→ts[p]? =some s→s.no < no)∧(∀ (p:Nat) s,i≤p→ts[p]? =some s→no≤s.no)∧(b=true ↔ ∃ s,ts[i]? =some s∧s.no=no)
def GivesPlcS (ts:List Tch)(no:Int)(w:World)(e:Ending)(w':World):Prop :=
 ∃ (i:Nat) (b:Bool),e=.returned (.tuple #[.int .i64 i,.bool b])∧IsPlc ts no i b∧Below w.heap.size w w'
theorem noAt_get {l:List Tch}{i:Nat}{t:Tch}(h:l[i]? =some t):noAt l i=t.no:=by unfold noAt;rw [h]
set_option maxHeartbeats 4000000 in
set_option maxRecDepth 100000 in
theorem searchNoS_any (N:Nat→Prop)(A:Option Addr)(U:List Tch)(t:Int)(c:Nat)(w:World)(hS:Sl rTch N w A U)(hn:U.length≤1000000)(hri:NoUp U) :
  Calls Tryz.prog 153 #[.slice A U.length c,.int .i64 t,.func (.func 154) #[] #[]] w (GivesPlcS U t w):=by
 have HS:=Lib.hid hS;have Hri:Hid (∀ (i j:Nat) p q,i < j→U[i]? =some p→U[j]? =some q→p.no < q.no):=fun i j p q hij hi hj=>by
  have h:=hri i j hij (lt_of_get hj);rw [noAt_get hi,noAt_get hj] at h;exact h
 clear hS hri;go_enter Tryz.func153,Tryz.ntmps153
 go_wp2_with fail
 go_loopw [9,10] (fun a b wr=>∃ i j:Nat,i≤j∧j≤U.length∧a=.int .i64 i∧b=.int .i64 j∧(∀ (p:Nat) f,p < i→U[p]? =some f→f.no < t)∧(∀ (p:Nat) f,j≤p→U[p]? =some f→t≤f.no)∧Below w.heap.size w wr) (fun a b _=>(intOf b - intOf a).toNat)
 case atStart=>exact ⟨0,U.length,by omega,by omega,rfl,rfl,(fun p f h=>by omega),(fun p f h hp=>by rw [List.getElem?_eq_none h] at hp;cases hp),Below.refl _ _⟩
 case round =>
  obtain ⟨i,j,hij,hj,rfl,rfl,hlo,hhi,hbl⟩:=hrel;have Hlo:=Lib.hid hlo;have Hhi:=Lib.hid hhi;have hsz:=hbl.size;clear hlo hhi;by_cases hlt:i < j
  ·obtain ⟨h,hh⟩:∃ h:Nat,h=(i + j) / 2:=⟨_,rfl⟩;have h1:i≤h:=by omega
   have h2:h < j:=by omega
   have eh:((i:Int) + (j:Int)) / 2=(h:Int):=by omega
   clear hh;obtain ⟨s,hf⟩:∃ s,U[h]? =some s:=⟨_,List.getElem?_eq_getElem (by omega)⟩;obtain ⟨blk,off,Ai,ci,Af,cf,rfl,hblk,d0,d1,d2,d3,d4,_,_⟩:=(HS.out.keepB hbl).tch h s hf;have Hf:=Lib.hid hf;clear hf;go_wp2_with fail
   refine (numb1S_any s Ai Af s.ids.length ci s.flds.length cf t _).mono ?_;rintro e w1 ⟨rfl,hl_w1⟩;have hz_w1:=hl_w1.size;have Hb1:Hid (Below w.heap.size w w1):=hbl.trans (hl_w1.mono hsz);have Hcn:=Lib.hid (cmpNoS s.no t).1;generalize Lib.compareInt s.no t=cm at *;clear hl_w1 hz_w1 d0 d1 d2 d3 d4;by_cases hc:cm < 0
   ·have Hl:Hid (∀ (p:Nat) g,p < h + 1→U[p]? =some g→g.no < t):=fun p g hp hg=>by
     have h5:=Hcn.out.1 hc;by_cases hph:p=h
     ·subst hph;rw [Hf.out] at hg;cases hg;exact h5
     ·have:=Hri.out p h g s (by omega) hg Hf.out;omega
    go_wp2_with fail
    go_roundw
    case rel=>exact ⟨h + 1,j,by omega,by omega,by go_num,rfl,Hl.out,Hhi.out,Hb1.out⟩
    case measure=>simp [intOf];omega
   ·have Hl:Hid (∀ (p:Nat) g,h≤p→U[p]? =some g→t≤g.no):=fun p g hp hg=>by
     have h5:¬ s.no < t:=fun e=>hc (Hcn.out.2 e);by_cases hph:p=h
     ·subst hph;rw [Hf.out] at hg;cases hg;omega
     ·have:=Hri.out h p s g (by omega) Hf.out hg;omega
    go_wp2_with fail
    go_roundw
    case rel=>exact ⟨i,h,by omega,by omega,rfl,rfl,Hlo.out,Hl.out,Hb1.out⟩
    case measure=>simp [intOf];omega
  ·obtain rfl:i=j:=by omega
   by_cases hli:i < U.length
   ·obtain ⟨s,hf⟩:∃ s,U[i]? =some s:=⟨_,List.getElem?_eq_getElem hli⟩;obtain ⟨blk,off,Ai,ci,Af,cf,rfl,hblk,d0,d1,d2,d3,d4,_,_⟩:=(HS.out.keepB hbl).tch i s hf;have Hf:=Lib.hid hf;clear hf;go_wp2_with fail
    refine (numb1S_any s Ai Af s.ids.length ci s.flds.length cf t _).mono ?_;rintro e w1 ⟨rfl,hl_w1⟩;have hz_w1:=hl_w1.size;have Hb1:Hid (Below w.heap.size w w1):=hbl.trans (hl_w1.mono hsz);have Hcz:Hid (Lib.compareInt s.no t=0 ↔ s.no=t):=(cmpNoS s.no t).2;generalize Lib.compareInt s.no t=cm at *;clear hl_w1 hz_w1 d0 d1 d2 d3 d4;go_wp2_with fail
    go_ret2
    refine ⟨i,(cm==0),rfl,⟨hj,Hlo.out,Hhi.out,?_⟩,Hb1.out⟩;rw [beq_iff_eq,Hcz.out];exact ⟨fun h=>⟨s,Hf.out,h⟩,fun ⟨g,hg,h⟩=>by rw [Hf.out] at hg;cases hg;exact h⟩
   ·go_wp2_with fail
    go_ret2
    exact ⟨i,false,rfl,⟨hj,Hlo.out,Hhi.out,⟨(fun h=>by cases h),(fun ⟨g,hg,_⟩=>by rw [List.getElem?_eq_none (by omega)] at hg;cases hg)⟩⟩,hbl⟩
theorem numberedS_any (N:Nat→Prop)(A:Option Addr)(U:List Tch)(t:Int)(c:Nat)(w:World)(hS:Sl rTch N w A U)(hn:U.length≤1000000)(hri:NoUp U) :
  Calls Tryz.prog 80 #[.slice A U.length c,.int .i64 t] w (GivesPlcS U t w):=by
 have H:=Lib.hid (fun w' (h:Below w.heap.size w w')=>searchNoS_any N A U t c w' (hS.keepB h) hn hri);clear hS hri;go_enter Tryz.func80,Tryz.ntmps80
 go_wp2_with fail
 refine (H.out w (Below.refl _ _)).mono ?_;rintro e w2 ⟨i,b,rfl,hp,hl⟩;have Hp:=Lib.hid hp;have Hl:=Lib.hid hl;clear hp hl H;go_wp2_with fail
 exact bodyPost_ret (results_two rfl rfl rfl) rfl ⟨i,b,rfl,Hp.out,Hl.out⟩
end
section
open Go Go.RowKit
def GoodT (ts:List Tch):Prop:=(∀ t∈ts,tchFault t 0=0)∧ts.Pairwise (fun a b=>a.no < b.no)
theorem GoodT.nil:GoodT []:=⟨fun _ h=>(by cases h),.nil⟩
theorem GoodT.up {ts:List Tch}(h:GoodT ts):NoUp ts:=fun i j hij hj=>by
 rw [noAt_get (List.getElem?_eq_getElem (by omega:i < ts.length)),noAt_get (List.getElem?_eq_getElem hj)];exact List.pairwise_iff_getElem.1 h.2 i j (by omega) hj hij
theorem GoodT.sub {ts us:List Tch}(h:GoodT ts)(hs:us.Sublist ts):GoodT us:=⟨fun t ht=>h.1 t (hs.mem ht),h.2.sublist hs⟩
theorem GoodT.del {ts:List Tch}(h:GoodT ts)(i:Nat):GoodT (ts.take i++ts.drop (i + 1)):=by
 rw [← List.eraseIdx_eq_take_drop_succ];exact h.sub (List.eraseIdx_sublist _ _)
theorem plc_above {ts:List Tch}(h:GoodT ts){no:Int}{i:Nat}(hp:IsPlc ts no i false):∀ t∈ts.drop i,no < t.no:=fun t ht=>by
 obtain ⟨k,hk,rfl⟩:=List.getElem_of_mem ht;rw [List.length_drop] at hk;rw [List.getElem_drop];have hg:ts[i + k]? =some ts[i + k]:=List.getElem?_eq_getElem (by omega);have h1:=hp.2.2.1 (i + k) _ (by omega) hg;have hgi:ts[i]? =some ts[i]:=List.getElem?_eq_getElem (by omega);have h2:=hp.2.2.1 i _ (Nat.le_refl _) hgi;have h3:ts[i].no≠no:=fun e=>by cases hp.2.2.2.2 ⟨_,hgi,e⟩
 rcases Nat.eq_zero_or_pos k with rfl | h4
 ·simp only [Nat.add_zero];omega
 ·have:=List.pairwise_iff_getElem.1 h.2 i (i + k) (by omega) (by omega) (by omega)
  omega
theorem plc_below {ts:List Tch}{no:Int}{i:Nat}{b:Bool}(hp:IsPlc ts no i b):∀ t∈ts.take i,t.no < no:=fun t ht=>by
 obtain ⟨k,hk,rfl⟩:=List.getElem_of_mem ht;rw [List.length_take] at hk;rw [List.getElem_take];exact hp.2.1 k _ (by omega) (List.getElem?_eq_getElem (by omega))
theorem GoodT.ins {ts:List Tch}(h:GoodT ts){u:Tch}(hu:tchFault u 0=0){i:Nat}(hp:IsPlc ts u.no i false):GoodT (ts.take i++u::ts.drop i):=by
 refine ⟨fun t ht=>?_,List.pairwise_append.2 ⟨h.2.sublist (List.take_sublist _ _),List.pairwise_cons.2 ⟨plc_above h hp,h.2.sublist (List.drop_sublist _ _)⟩,fun a ha b hb=>?_⟩⟩
 ·rcases List.mem_append.1 ht with ht | ht
  ·exact h.1 t (List.mem_of_mem_take ht)
  ·rcases List.mem_cons.1 ht with rfl | ht
   ·exact hu
   ·exact h.1 t (List.mem_of_mem_drop ht)
 ·have h1:=plc_below hp a ha;rcases List.mem_cons.1 hb with rfl | hb
  ·exact h1
  ·have:=plc_above h hp b hb;omega
theorem ins_sorted {ts ys:List Tch}(h:GoodT ts){u:Tch}(hu:tchFault u 0=0){i:Nat}(hp:IsPlc ts u.no i false)(hy:ys.Perm (ts++[u]))(hs:ys.Pairwise (fun a b=>a.no≤b.no)):ys=ts.take i++u::ts.drop i:=by
 have h1:=h.ins hu hp;have hperm:(ts.take i++u::ts.drop i).Perm (ts++[u]):=by
  have h2:(ts.take i++u::ts.drop i).Perm (u::(ts.take i++ts.drop i)):=List.perm_middle;rw [List.take_append_drop] at h2;exact h2.trans (List.perm_append_comm (l₁:=[u]))
 have hpp:=hy.trans hperm.symm;have hnd:(ys.map Tch.no).Nodup:=by
  rw [(hpp.map Tch.no).nodup_iff];rw [List.nodup_iff_pairwise_ne,List.pairwise_map];exact h1.2.imp (fun h=>Int.ne_of_lt h)
 have hst:ys.Pairwise (fun a b=>a.no < b.no):=by
  rw [List.nodup_iff_pairwise_ne,List.pairwise_map] at hnd;exact (hs.and hnd).imp (fun h=>by omega)
 exact strict_eq (fun a b:Tch=>a.no < b.no) (fun _=>Int.lt_irrefl _) (fun _ _ _ h1 h2=>Int.lt_trans h1 h2) _ _ hst h1.2 (fun x=>hpp.mem_iff)
theorem plc_none {ts:List Tch}(h:GoodT ts){no:Int}{i:Nat}(hp:IsPlc ts no i false):∀ t∈ts,t.no≠no:=fun t ht=>by
 rw [← List.take_append_drop i ts] at ht;rcases List.mem_append.1 ht with ht | ht
 ·have:=plc_below hp t ht;omega
 ·have:=plc_above h hp t ht;omega
theorem plc_here {ts:List Tch}{no:Int}{i:Nat}(hp:IsPlc ts no i true):∃ s,ts[i]? =some s∧s.no=no:=hp.2.2.2.1 rfl
theorem plc_same {ts:List Tch}(h:GoodT ts){i j:Nat}{s t:Tch}(hi:ts[i]? =some s)(hj:ts[j]? =some t)(e:s.no=t.no):i=j :=
 h.up.inj (lt_of_get hi) (lt_of_get hj) (by rw [noAt_get hi,noAt_get hj,e])
theorem downs_of:∀ {l:List Int} {prev:Option Int},l.Pairwise (· < ·)→(∀ q,prev=some q→∀ x∈l,q < x)→downs prev l=false
 | [],_,_,_=>rfl
 | n::r,prev,h,hq=>by
  obtain ⟨h1,h2⟩:=List.pairwise_cons.1 h;rw [downs,downs_of h2 (fun q e x hx=>by cases e;exact h1 x hx),Bool.or_false];cases prev with
  | none=>rfl
  | some q =>
   have:=hq q rfl n (List.mem_cons_self ..)
   rw [notAb,decide_eq_false_iff_not];omega
theorem twice_of:∀ {l S:List Int},l.Pairwise (· < ·)→(∀ n∈l,n ∉ S)→twice S l=false
 | [],_,_,_=>rfl
 | n::r,S,h,hs=>by
  obtain ⟨h1,h2⟩:=List.pairwise_cons.1 h;rw [twice,twice_of h2 (fun m hm hmem=>by
   rcases List.mem_append.1 hmem with h3 | h3
   ·exact hs m (List.mem_cons_of_mem _ hm) h3
   ·have:=h1 m hm
    rw [List.mem_singleton.1 h3] at this;omega),Bool.or_false,decide_eq_false_iff_not]
  exact hs n (List.mem_cons_self ..)
theorem psnsGo_of:∀ {P:List Psn} {S:List Int},(∀ p∈P,L.idFault p.key.k p.key.t=0∧p.tch.length≠0∧p.tch.Pairwise (· < ·)∧∀ n∈p.tch,n ∉ S)→P.Pairwise (fun p q=>∀ n,n∈p.tch→n ∉ q.tch)→psnsGo S P=0
 | [],_,_,_=>rfl
 | p::r,S,h,hp=>by
  obtain ⟨h1,h2⟩:=List.pairwise_cons.1 hp;obtain ⟨a1,a2,a3,a4⟩:=h p (List.mem_cons_self ..);rw [psnsGo,psnF_ok a1 a2 (downs_of a3 (fun _ e=>by cases e)) (twice_of a3 a4),if_neg (by decide)];refine psnsGo_of (fun q hq=>?_) h2;obtain ⟨b1,b2,b3,b4⟩:=h q (List.mem_cons_of_mem _ hq);refine ⟨b1,b2,b3,fun n hn hm=>?_⟩;rcases List.mem_append.1 hm with hm | hm
  ·exact b4 n hn hm
  ·exact h1 q hq n hm hn
theorem keyP_mem {r:Rul}{l:List Tch}{t:Tch}(h:t.ids≠[]):keyP r l t∈t.ids:=by
 unfold keyP;cases hf:t.ids.find? (joinsP r l) with
 | some x=>exact List.mem_of_find?_eq_some hf
 | none =>
  cases hi:t.ids with
  | nil=>exact absurd hi h
  | cons x r=>exact List.mem_cons_self ..
theorem tchF_ids {t:Tch}{last:Int}(h:tchFault t last=0):∀ x∈t.ids,L.idFault x.k x.t=0:=by
 have h1:idsUp t.ids=0:=by
  unfold tchFault tchE at h;split at h
  ·cases h
  ·split at h
   ·cases h
   ·split at h
    ·cases h
    ·split at h
     ·cases h
     ·split at h
      ·cases h
      ·split at h
       ·rename_i h2;exact absurd h h2
       ·rename_i h2;omega
 exact (idsGo_ok h1).1
theorem psns_zero {r:Rul}{ts:List Tch}{P:List Psn}(hP:IsPsns r ts P)(h:GoodT ts):psnsF P=0:=by
 obtain ⟨c,_,rfl⟩:=hP;have hup:∀ i,((partAt c ts.length i).map (noAt ts)).Pairwise (· < ·):=fun i=>by
  rw [List.pairwise_map];have h1:(partAt c ts.length i).Pairwise (· < ·):=(List.pairwise_lt_range (n:=ts.length)).sublist List.filter_sublist;refine (List.Pairwise.and_mem.1 h1).imp ?_;rintro a b ⟨_,hb,hab⟩;exact h.up a b hab (by have:=(List.mem_filter.1 hb).1;simpa using this)
 refine psnsGo_of (fun p hp=>?_) ?_
 ·obtain ⟨i,hi,rfl⟩:=List.mem_map.1 hp;obtain ⟨h1,h2⟩:=List.mem_filter.1 hi;have hil:i < ts.length:=by simpa using h1
  have hg:ts[i]? =some ts[i]:=List.getElem?_eq_getElem hil;refine ⟨?_,?_,hup i,fun _ _ hm=>by cases hm⟩
  ·show L.idFault (psnAt r ts c i).key.k (psnAt r ts c i).key.t=0;have e:(psnAt r ts c i).key=keyP r ts ts[i]:=by unfold psnAt;simp only [hg]
   rw [e];exact tchF_ids (h.1 _ (List.mem_of_getElem? hg)) _ (keyP_mem (tch_right (h.1 _ (List.mem_of_getElem? hg))).2.2)
  ·show ((partAt c ts.length i).map (noAt ts)).length≠0;rw [List.length_map];have hm:i∈partAt c ts.length i:=List.mem_filter.2 ⟨h1,h2⟩;exact fun e=>List.ne_nil_of_mem hm (List.length_eq_zero_iff.1 e)
 ·unfold psns;rw [List.pairwise_map];have h1:(heads c ts.length).Pairwise (· < ·):=(List.pairwise_lt_range (n:=ts.length)).sublist List.filter_sublist;refine h1.imp ?_;intro i j hij n hn hm;obtain ⟨a,ha,rfl⟩:=List.mem_map.1 (show n∈(partAt c ts.length i).map (noAt ts) from hn);obtain ⟨b,hb,e⟩:=List.mem_map.1 (show noAt ts a∈(partAt c ts.length j).map (noAt ts) from hm);obtain ⟨a1,a2⟩:=List.mem_filter.1 ha;obtain ⟨b1,b2⟩:=List.mem_filter.1 hb;have hab:=h.up.inj (by simpa using a1) (by simpa using b1) e.symm;subst hab;have h3:c a=i:=by simpa using a2
  have h4:c a=j:=by simpa using b2
  omega
theorem shf_none (P:List Psn):IsShf P P []:=⟨.nil,fun s=>⟨(fun h=>by cases h),fun ⟨_,h1,h2,h3⟩=>absurd (h1.trans h2.symm) h3⟩⟩
end
section
open Go Go.RowKit
theorem psns_tn {r:Rul}{ts:List Tch}{P:List Psn}(hP:IsPsns r ts P)(hl:ts.length≤20)(ht:∀ t∈ts,∀ x∈t.ids,x.t.size≤10000):PsnTn P:=by
 obtain ⟨c,_,rfl⟩:=hP;unfold psns;refine ⟨?_,fun p hp=>?_⟩
 ·rw [List.length_map];have:=heads_len c ts.length
  omega
 ·obtain ⟨i,_,rfl⟩:=List.mem_map.1 hp;refine ⟨?_,?_⟩
  ·show ((partAt c ts.length i).map (noAt ts)).length≤_;rw [List.length_map];have:=part_len c ts.length i
   omega
  ·unfold psnAt;cases hi:ts[i]? with
   | none=>exact Nat.zero_le 10000
   | some t =>
    have htm:=ht t (List.mem_of_getElem? hi);show (keyP r ts t).t.size≤_;unfold keyP;cases hf:t.ids.find? (joinsP r ts) with
    | some x=>exact htm x (List.mem_of_find?_eq_some hf)
    | none =>
     cases hd:t.ids with
     | nil=>exact Nat.zero_le 10000
     | cons x l=>exact htm x (by rw [hd];exact List.mem_cons_self ..)
abbrev ixCs (r:Rul)(K:Option Addr)(ck:Nat)(W:Option Addr)(cw:Nat)(S:Option Addr)(cs:Nat)(L:Option Addr)(n c:Nat)(P:Option Addr)(m cp:Nat):Array Value:=#[.slice K r.kinds.length ck,.int .i64 r.most,.slice W r.weak.length cw,.slice S r.surv.length cs,.slice L n c,.slice P m cp]
def GivesBec (r:Rul)(K:Option Addr)(ck:Nat)(W:Option Addr)(cw:Nat)(Sv:Option Addr)(cs X:Nat)(L:Option Addr)(c:Nat)(P:List Psn)(ts:List Tch)(w0:World)(ch:List Chunk)(e:Ending)(w':World):Prop :=
 ∃ (A1:Option Addr) (c1:Nat) (l:List Shf) (A2:Option Addr) (c2:Nat) (now:List Psn),e=.returned (.slice A1 l.length c1)∧IsPsns r ts now∧PsnTn now∧IsShf P now l∧Mem w0 w' (.loc X (ixCs r K ck W cw Sv cs L ts.length c A2 now.length c2) 130::(ch++[.sl rPsn A2 now,.sl rShf A1 l]))
set_option maxHeartbeats 8000000 in
set_option maxRecDepth 100000 in
theorem become_any {w0 w:World}(ch:List Chunk)(X:Nat)(r:Rul)(K W Sv L0 L Pa:Option Addr)(ck cw cs n0 c0 c cp:Nat)(P:List Psn)(ts:List Tch)(S:Mem w0 w (.loc X (ixCs r K ck W cw Sv cs L0 n0 c0 Pa P.length cp) 130::ch))
  (hR:RulIn (fun _=>False) w r K W Sv) (hT:Sl rTch (fun _=>False) w L ts) (hP:Sl rPsn (fun _=>False) w Pa P) (ho:RtOk r ts) (hg:GoodT ts) (hl:ts.length≤20) (hs:∀ t∈ts,∀ x∈t.ids,x.t.size≤10000) (hpa:Apart P) (hpt:PsnTn P) :
  Calls Tryz.prog 81 #[.pointer (some ⟨X,0,none⟩),.slice L ts.length c] w (GivesBec r K ck W cw Sv cs X L c P ts w0 ch):=by
 have HR:=Lib.hid (fun w' (h:Below w.heap.size w w')=>hR.keepB h);have HT:=Lib.hid (fun w' (h:Below w.heap.size w w')=>hT.keepB h);have HP:=Lib.hid (fun w' (h:Below w.heap.size w w')=>hP.keepB h);have Ho:=Lib.hid ho;have Hg:Hid (GoodT ts):=hg;have Hl:=Lib.hid (fun (Q:List Psn) (h:IsPsns r ts Q)=>psns_tn h hl hs);have Hpa:=Lib.hid hpa;have Hpt:Hid (PsnTn P):=hpt;have HS:=Lib.hid S;have l0:=(S.lv 0 rfl).all;clear hR hT hP ho hg hl hs hpa hpt S;go_enter Tryz.func81,Tryz.ntmps81
 have Hn:=Lib.hid (newGroup_any (fun _=>False) r K W Sv L ck cw cs c ts w (HT.out w (Below.refl _ _)) Ho.out.tl (fun t h=>(Ho.out.up t h).nodup) Ho.out.il);go_wp2_with fail
 refine (Hn.out).mono ?_;rintro e w3 ⟨G,Y,qs,rfl,T3,hH⟩;have Hm:=Lib.hid (members_any (fun _=>False) G Y r K W Sv L ck cw cs c ts qs w3 (grp_of T3.b (HR.out w (Below.refl _ _)) (HT.out w (Below.refl _ _)) T3 hH) Ho.out);have hb3:=T3.b;clear Hn T3 hH l0;go_wp2_with fail
 refine (Hm.out).mono ?_;rintro e w4 ⟨Aq,cq,cc,ms,rfl,hp,hm,T5⟩;have Hpm:Hid (IsPsns r ts (ms.map MQ.psn)):=⟨cc,hp,hm.are⟩;have hb4:=hb3.trans (T5.b.mono hb3.size);have Hps:=Lib.hid (persons_in [] Aq cq ms (by have:=hm.len;have:=Ho.out.tl;omega) T5);clear Hm hp hm T5;go_wp2_with fail
 refine (Hps.out).mono ?_;rintro e w5 ⟨Ap,c5,rfl,T6⟩;obtain ⟨now,hnow⟩:∃ now,ms.map MQ.psn=now:=⟨_,rfl⟩;rw [hnow] at T6 Hpm ⊢;have hb5:=hb3.trans (T6.b.mono hb3.size);have S5:=(HS.out.below hb3).join T6;have Hnt:Hid (PsnTn now):=Hl.out now Hpm.out;have Hna:Hid (Apart now):=psnsF_zero (psns_zero Hpm.out Hg.out);have Hd:=Lib.hid (differ_any (fun _=>False) P now Pa Ap cp c5 w5 (HP.out w5 hb5) ((T6.slc 0 rfl).mono (fun _ _ h=>h.elim)) (Nat.le_trans Hpt.out.1 (by decide)) (Nat.le_trans Hnt.out.1 (by decide)) (fun p hp=>Nat.le_trans (Hpt.out.2 p hp).1 (by decide)) (fun p hp=>Nat.le_trans (Hnt.out.2 p hp).1 (by decide)) (by
  have h1:=flat_le (fun p hp=>(Hpt.out.2 p hp).1);have h2:=flat_le (fun p hp=>(Hnt.out.2 p hp).1);have h3:=Hpt.out.1;have h4:=Hnt.out.1;omega) Hpa.out Hna.out)
 have l0:=(S5.lv 0 rfl).all;have HS5:=Lib.hid S5;clear hnow hb3 hb4 hb5 T6 S5 Hps HS;go_wp2_with fail
 refine (Hd.out).mono ?_;rintro e w6 ⟨A1,c1,l,rfl,hl,T7⟩;have S6:=HS5.out.join T7;have S7:Mem w0 w6 (.loc X (ixCs r K ck W cw Sv cs L0 n0 c0 Pa P.length cp) 130::(ch++[.sl rPsn Ap now,.sl rShf A1 l])):=by
  have e:(Chunk.loc X (ixCs r K ck W cw Sv cs L0 n0 c0 Pa P.length cp) 130::(ch++[.sl rPsn Ap now,.sl rShf A1 l]))=Chunk.loc X (ixCs r K ck W cw Sv cs L0 n0 c0 Pa P.length cp) 130::ch++[.sl rPsn Ap now]++[.sl rShf A1 l]:=by simp
  rw [e];exact S6
 have l0:=(S7.lv 0 rfl).all;have S8:=(S7.set 0 4 (.slice L ts.length c) rfl).set 0 5 (.slice Ap now.length c5) rfl;have HS8:Hid (Mem w0 _ (.loc X (ixCs r K ck W cw Sv cs L ts.length c Ap now.length c5) 130::(ch++[.sl rPsn Ap now,.sl rShf A1 l]))):=S8;have Hsh:=Lib.hid hl;clear HS5 T7 S6 S7 S8 hl Hd;go_wp2_with fail
 go_ret;exact ⟨A1,c1,l,Ap,c5,now,rfl,Hpm.out,Hnt.out,Hsh.out,HS8.out⟩
end
end Go.Proofs.YtmkkppknaikjjaaGreatDoor
