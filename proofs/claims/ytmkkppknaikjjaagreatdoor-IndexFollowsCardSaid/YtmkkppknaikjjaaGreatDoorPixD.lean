/- Several texts in one: PsnOf, DifLaw, DifChk, Differ, PsnCat, CmpI, DifT. -/
import Derived.Test.YtmkkppknaikjjaaGreatDoorPixP
import Derived.Test.YtmkkppknaikjjaaGreatDoorPixX
import Derived.Test.YtmkkppknaikjjaaGreatDoorPixT
import Derived.Test.YtmkkppknaikjjaaGreatDoorPixI
import Derived.Test.YtmkkppknaikjjaaGreatDoorPixQ
import Derived.Test.YtmkkppknaikjjaaGreatDoorSfix
import Derived.Test.YtmkkppknaikjjaaGreatDoorPixV
import Derived.Test.YtmkkppknaikjjaaGreatDoorPixC
import Derived.Lib.AppendZerosOnto
import Derived.Test.YtmkkppknaikjjaaGreatDoorPixN
import Derived.Lib.SlicesCompact
/- person.of: the first person who has an id. -/
namespace Go.Proofs.YtmkkppknaikjjaaGreatDoor
section
open Go Go.RowKit
def ofP (P:List Psn)(x:IdV):Option Psn:=P.find? (fun p=>decide (x∈p.ids))
abbrev pzCs:Array Value:=#[.int .i64 0,.string ⟨#[]⟩,.slice none 0 0,.slice none 0 0]
theorem loadPsn {w:World}{X:Nat}{a b c d:Value}(h:LV w X #[a,b,c,d] 80):(loadVar 80 ⟨X,0,none⟩).run Tryz.prog w=.ok (.agg #[a,b,c,d]) w:=by
 have c0:=h.all;go_simp
def IsOf (N:Nat→Prop)(P:List Psn)(x:IdV)(w':World)(cs:Array Value)(b:Bool):Prop :=
 (ofP P x=none∧b=false∧cs=pzCs)∨∃ p A a B b',ofP P x=some p∧b=true∧cs=psCs p A a B b'∧Sl rInt N w' A p.tch∧Sl rId N w' B p.ids
def GivesOf (N:Nat→Prop)(P:List Psn)(x:IdV)(w:World)(e:Ending)(w':World):Prop :=
 ∃ cs b,e=.returned (.tuple #[.agg cs,.bool b])∧Below w.heap.size w w'∧IsOf N P x w' cs b
set_option maxHeartbeats 4000000 in
set_option maxRecDepth 100000 in
theorem psnOf_any (N:Nat→Prop)(P:List Psn)(A:Option Addr)(c:Nat)(x:IdV)(w:World)(hS:Sl rPsn N w A P)(hl:P.length≤1000000)(hs:∀ p∈P,p.ids.length≤1000000∧RiseI p.ids) :
  Calls Tryz.prog 97 #[.slice A P.length c,.agg #[.int .i64 x.k,.string x.t]] w (GivesOf N P x w):=by
 have HS:=Lib.hid (fun w' (h:Below w.heap.size w w')=>hS.keepB h);have Hs:=Lib.hid hs;clear hS hs;obtain ⟨X,hX⟩:∃ X,X=w.heap.size:=⟨_,rfl⟩;have S1:=(Mem.start w).newAt #[.int .i64 x.k,.string x.t] 46 X hX;have S:Mem w _ [.loc X #[.int .i64 x.k,.string x.t] 46,.loc (X + 1) pzCs 80]:=S1.newAt pzCs 80 (X + 1) (by rw [hX,World.size_alloc]);clear S1;go_enter Tryz.func97,Tryz.ntmps97
 go_upto_region 1 with fail
 rw [← hX];clear hX;generalize (w.alloc (.cells #[.int .i64 x.k,.string x.t] 46)).alloc (.cells pzCs 80)=w1 at *;obtain ⟨R,hR⟩:∃ R,R=X + 1:=⟨_,rfl⟩;rw [← hR] at S ⊢;clear hR;go_wp2_with fail
 go_loopw [12] (fun i wr=>∃ j:Nat,j≤P.length∧i=.int .i64 j∧Hid (ofP (P.drop j) x=ofP P x)∧Mem w wr [.loc X #[.int .i64 x.k,.string x.t] 46,.loc R pzCs 80]) (fun i _=>P.length - (intOf i).toNat)
 case atStart=>exact ⟨0,Nat.zero_le _,rfl,rfl,S⟩
 case round =>
  clear S;obtain ⟨j,hj,rfl,Hf,S⟩:=hrel;by_cases hlt:j < P.length
  ·obtain ⟨p,hp⟩:∃ p,P[j]? =some p:=⟨_,List.getElem?_eq_getElem hlt⟩;obtain ⟨b1,o1,At,at',Ai,ai,rfl,hb1,c0,c1,c2,c3,s1,s2⟩:=(HS.out w (Below.refl _ _)).psn j p hp;have hcl:=fun (q:Addr) (hq:q.block < w.heap.size)=>S.b.cell hq;rw [← hcl _ hb1] at c0 c1 c2 c3;clear hcl;have hpl:=Hs.out p (List.mem_of_getElem? hp);have Hd:Hid (ofP (P.drop j) x=if decide (x∈p.ids)=true then some p else ofP (P.drop (j + 1)) x):=by
    show _=_;rw [drop_at3 hp];unfold ofP;rw [List.find?_cons];cases decide (x∈p.ids) <;> rfl
   have Hbs:=Lib.hid (fun w' (h:Below w.heap.size w w')=>bsId_any N Ai p.ids x ai w' (s2.keepB h) hpl.1 hpl.2);have Hri:Hid (∀ (i j:Nat) (a b:IdV),i < j→p.ids[i]? =some a→p.ids[j]? =some b→cmpId b x≤0→cmpId a x < 0):=fun i j a b hij ha hb h=>by
    obtain ⟨hi,rfl⟩:=List.getElem?_eq_some_iff.1 ha;obtain ⟨hj,rfl⟩:=List.getElem?_eq_some_iff.1 hb;exact cmpId_ok.lt (List.pairwise_iff_getElem.1 hpl.2 i j hi hj hij) h
   have Hsl:=Lib.hid (fun w' (h:Below w.heap.size w w')=>(⟨s1.keepB h,s2.keepB h⟩:Sl rInt N w' At p.tch∧Sl rId N w' Ai p.ids));clear hp s1 s2 hpl;obtain ⟨U,hU⟩:∃ U,U=wr.heap.size:=⟨_,rfl⟩;have S2:Mem w _ [.loc X #[.int .i64 x.k,.string x.t] 46,.loc R pzCs 80,.loc U (psCs p At at' Ai ai) 80]:=S.newAt (psCs p At at' Ai ai) 80 U hU;go_upto_region 4 with fail
   rw [← hU];clear hU S c0 c1 c2 c3;generalize wr.alloc (.cells (psCs p At at' Ai ai) 80)=w2 at *;have l0:=(S2.lv 0 rfl).all;have l2:=(S2.lv 2 rfl).all;go_wp2_with fail
   refine (Hbs.out _ S2.b).mono ?_;rintro e w3 ⟨q,b,rfl,hq,hlo,hhi,hb,hb3⟩;have Hh:=Lib.hid (by_has hlo hhi Hri.out hb);have S3:=S2.below hb3;clear hlo hhi hb l0 l2 S2 hb3 Hbs Hri;have Hm:Hid (b=decide (x∈p.ids)):=by
    have:=Hh.out
    show _=_;rw [Bool.eq_iff_iff,decide_eq_true_eq,this];constructor
    ·rintro ⟨f,hf,h0⟩;rw [← cmpId_zero h0];exact hf
    ·exact fun h=>⟨x,h,cmpId_ok.refl x⟩
   cases b
   ·go_wp2_with fail
    go_roundw
    case rel=>exact ⟨j + 1,by omega,by go_num,by show _=_;rw [← Hf.out,Hd.out,← Hm.out,if_neg (by decide)],S3.del 2⟩
    case measure=>simp [intOf];omega
   ·have l1:=(S3.lv 1 rfl).all;have l2:=(S3.lv 2 rfl).all;have S9:=(((S3.set 1 0 (.int .i64 p.key.k) rfl).set 1 1 (.string p.key.t) rfl).set 1 2 (.slice At p.tch.length at') rfl).set 1 3 (.slice Ai p.ids.length ai) rfl;have hof:ofP P x=some p:=by rw [← Hf.out,Hd.out,← Hm.out,if_pos rfl]
    go_wp2_with fail
    exact bodyPost_ret (results_cs rfl rfl rfl (loadPsn (S9.lv 1 rfl))) rfl ⟨_,_,rfl,S9.b,.inr ⟨p,At,at',Ai,ai,hof,rfl,rfl,(Hsl.out _ S9.b).1,(Hsl.out _ S9.b).2⟩⟩
  ·obtain rfl:j=P.length:=by omega
   have hnone:ofP P x=none:=by rw [← Hf.out,List.drop_length];rfl
   have l1:=(S.lv 1 rfl).all;have S9:=(((S.set 1 0 (.int .i64 0) rfl).set 1 1 (.string ⟨#[]⟩) rfl).set 1 2 (.slice none 0 0) rfl).set 1 3 (.slice none 0 0) rfl;go_wp2_with fail
   exact bodyPost_ret (results_cs rfl rfl rfl (loadPsn (S9.lv 1 rfl))) rfl ⟨_,_,rfl,S9.b,.inl ⟨hnone,rfl,rfl⟩⟩
end
section
open Go Go.RowKit
def notAb:Option Int→Int→Bool
 | some p,n=>decide (n≤p)
 | none,_=>false
def downs (prev:Option Int):List Int→Bool
 | []=>false
 | n::r=>notAb prev n || downs (some n) r
def twice (S:List Int):List Int→Bool
 | []=>false
 | n::r=>decide (n∈S) || twice (S++[n]) r
def psnF (S:List Int)(p:Psn):Int:=if L.idFault p.key.k p.key.t≠0 then L.idFault p.key.k p.key.t else if p.tch.length=0 then 3 else if downs none p.tch=true then 7 else if twice S p.tch=true then 6 else 0
def psnsGo (S:List Int):List Psn→Int
 | []=>0
 | p::r=>if psnF S p≠0 then psnF S p else psnsGo (S++p.tch) r
def psnsF (P:List Psn):Int:=psnsGo [] P
theorem downs_rise:∀ {l:List Int} {prev:Option Int},downs prev l=false→l.Pairwise (· < ·)∧∀ q,prev=some q→∀ x∈l,q < x
 | [],_,_=>⟨List.Pairwise.nil,fun _ _ x hx=>by cases hx⟩
 | n::r,prev,h=>by
  rw [downs,Bool.or_eq_false_iff] at h;obtain ⟨h1,h2⟩:=downs_rise h.2;have h3:∀ q,prev=some q→q < n:=fun q e=>by
   have:=h.1
   subst e;rw [notAb,decide_eq_false_iff_not] at this;omega
  refine ⟨List.pairwise_cons.2 ⟨fun x hx=>h2 n rfl x hx,h1⟩,fun q e x hx=>?_⟩;rcases List.mem_cons.1 hx with rfl | hx
  ·exact h3 q e
  ·have:=h2 n rfl x hx
   have:=h3 q e
   omega
theorem twice_not:∀ {l S:List Int},twice S l=false→∀ n∈l,n ∉ S
 | [],_,_,n,hn=>by cases hn
 | m::r,S,h,n,hn=>by
  rw [twice,Bool.or_eq_false_iff] at h;rcases List.mem_cons.1 hn with rfl | hn
  ·simpa using h.1
  ·exact fun e=>twice_not h.2 n hn (List.mem_append_left _ e)
structure Apart (P:List Psn):Prop where
 up:∀ p∈P,p.tch.Pairwise (· < ·)
 ap:P.Pairwise fun p q=>∀ n,n∈p.tch→n ∉ q.tch
theorem psnF_zero {S:List Int}{p:Psn}(h:psnF S p=0):p.tch.Pairwise (· < ·)∧∀ n∈p.tch,n ∉ S:=by
 unfold psnF at h;split at h
 ·exact absurd h (by assumption)
 ·split at h
  ·cases h
  ·split at h
   ·cases h
   ·split at h
    ·cases h
    ·rename_i h1 h2;exact ⟨(downs_rise (by simpa using h1)).1,twice_not (by simpa using h2)⟩
theorem psnsGo_zero:∀ {P:List Psn} {S:List Int},psnsGo S P=0→Apart P∧∀ p∈P,∀ n∈p.tch,n ∉ S
 | [],_,_=>⟨⟨(fun p hp=>by cases hp),List.Pairwise.nil⟩,fun p hp=>by cases hp⟩
 | p::r,S,h=>by
  rw [psnsGo] at h;split at h
  ·exact absurd h (by assumption)
  ·rename_i h0;obtain ⟨h1,h2⟩:=psnF_zero (Decidable.not_not.1 h0);obtain ⟨⟨h3,h4⟩,h5⟩:=psnsGo_zero h;refine ⟨⟨fun q hq=>?_,List.pairwise_cons.2 ⟨fun q hq n hn hn2=>h5 q hq n hn2 (List.mem_append_right _ hn),h4⟩⟩,fun q hq n hn=>?_⟩
   ·rcases List.mem_cons.1 hq with rfl | hq
    ·exact h1
    ·exact h3 q hq
   ·rcases List.mem_cons.1 hq with rfl | hq
    ·exact h2 n hn
    ·exact fun e=>h5 q hq n hn (List.mem_append_left _ e)
theorem psnsF_zero {P:List Psn}(h:psnsF P=0):Apart P:=(psnsGo_zero h).1
def keyIn (P:List Psn)(n:Int):IdV:=match P.find? (fun p=>decide (n∈p.tch)) with | some p=>p.key | none=>⟨0,⟨#[]⟩⟩
def inT (P:List Psn)(n:Int):Prop:=∃ p∈P,n∈p.tch
theorem keyIn_none {P:List Psn}{n:Int}(h:¬ inT P n):keyIn P n=⟨0,⟨#[]⟩⟩:=by
 unfold keyIn;rw [List.find?_eq_none.2 (fun p hp=>by simp only [decide_eq_true_eq];exact fun e=>h ⟨p,hp,e⟩)]
theorem keyIn_app {P:List Psn}{q:Psn}{n:Int}(h:¬ inT P n∨n ∉ q.tch):keyIn (P++[q]) n=if n∈q.tch then q.key else keyIn P n:=by
 unfold keyIn;rw [List.find?_append];cases hf:P.find? (fun p=>decide (n∈p.tch)) with
 | some p =>
  have h1:inT P n:=⟨p,List.mem_of_find?_eq_some hf,by simpa using List.find?_some hf⟩;rw [if_neg (h.resolve_left (fun e=>e h1))];rfl
 | none =>
  rw [Option.none_or,List.find?_cons];by_cases hq:n∈q.tch
  ·rw [decide_eq_true hq,if_pos hq]
  ·rw [decide_eq_false hq,if_neg hq,List.find?_nil]
theorem inT_app {P:List Psn}{q:Psn}{n:Int}:inT (P++[q]) n ↔ inT P n∨n∈q.tch:=by
 unfold inT;constructor
 ·rintro ⟨p,hp,h⟩;rcases List.mem_append.1 hp with hp | hp
  ·exact .inl ⟨p,hp,h⟩
  ·rw [List.mem_singleton.1 hp] at h;exact .inr h
 ·rintro (⟨p,hp,h⟩ | h)
  ·exact ⟨p,List.mem_append_left _ hp,h⟩
  ·exact ⟨q,by simp,h⟩
structure Shf where
 no:Int
 a:IdV
 b:IdV
abbrev shV (n:Int)(a b:IdV):Value:=.agg #[.int .i64 n,.int .i64 a.k,.string a.t,.int .i64 b.k,.string b.t]
def IsShf (A B:List Psn)(l:List Shf):Prop:=l.Pairwise (fun s t=>s.no < t.no)∧∀ s,s∈l ↔ (inT A s.no∨inT B s.no)∧s.a=keyIn A s.no∧s.b=keyIn B s.no∧s.a≠s.b
theorem IsShf.uniq {A B:List Psn}{l m:List Shf}(h:IsShf A B l)(g:IsShf A B m):l=m :=
 strict_eq (fun s t:Shf=>s.no < t.no) (fun _=>Int.lt_irrefl _) (fun _ _ _ h1 h2=>Int.lt_trans h1 h2) l m h.1 g.1 (fun x=>by rw [h.2,g.2])
abbrev Psn.tk (p:Psn)(k:Nat):Psn:=⟨p.key,p.tch.take k,p.ids⟩
def ShOk (A B:List Psn)(M:List (Int×Value)):Prop:=∀ n,(inT A n∨inT B n→getG n M=some (shV n (keyIn A n) (keyIn B n)))∧(¬ (inT A n∨inT B n)→getG n M=none)
theorem ShOk.start:ShOk [] [] []:=fun n=>⟨fun h=>(by rcases h with ⟨_,h,_⟩ | ⟨_,h,_⟩ <;> cases h),fun _=>rfl⟩
theorem not_mem_take {l:List Int}(h:l.Pairwise (· < ·)){k:Nat}{n:Int}(hk:l[k]? =some n):n ∉ l.take k:=by
 intro hm;obtain ⟨j,hj⟩:=List.mem_iff_getElem?.1 hm;obtain ⟨hj2,e⟩:=List.getElem?_eq_some_iff.1 hj;obtain ⟨hk2,e2⟩:=List.getElem?_eq_some_iff.1 hk;rw [List.getElem_take] at e;rw [List.length_take] at hj2;have:=List.pairwise_iff_getElem.1 h j k (by omega) hk2 (by omega)
 rw [e,e2] at this;omega
theorem Apart.at' {P:List Psn}(h:Apart P){i:Nat}{p:Psn}(hp:P[i]? =some p){n:Int}(hn:n∈p.tch):¬ inT (P.take i) n:=by
 rintro ⟨q,hq,hm⟩;obtain ⟨j,hj⟩:=List.mem_iff_getElem?.1 hq;obtain ⟨hj2,e⟩:=List.getElem?_eq_some_iff.1 hj;obtain ⟨hi2,e2⟩:=List.getElem?_eq_some_iff.1 hp;rw [List.getElem_take] at e;rw [List.length_take] at hj2;have:=List.pairwise_iff_getElem.1 h.ap j i (by omega) hi2 (by omega) n (by rw [e];exact hm)
 rw [e2] at this;exact this hn
theorem inT_tk0 {P:List Psn}{p:Psn}{n:Int}:inT (P++[p.tk 0]) n ↔ inT P n:=by rw [inT_app];simp
theorem keyIn_tk0 {P:List Psn}{p:Psn}{n:Int}:keyIn (P++[p.tk 0]) n=keyIn P n:=by rw [keyIn_app (.inr (by simp))];simp
theorem ShOk.begA {A:List Psn}{M:List (Int×Value)}(h:ShOk A [] M)(p:Psn):ShOk (A++[p.tk 0]) [] M:=fun n=>by rw [inT_tk0,keyIn_tk0];exact h n
theorem ShOk.begB {A B:List Psn}{M:List (Int×Value)}(h:ShOk A B M)(p:Psn):ShOk A (B++[p.tk 0]) M:=fun n=>by rw [inT_tk0,keyIn_tk0];exact h n
theorem tk_full (p:Psn):p.tk p.tch.length=p:=by unfold Psn.tk;rw [List.take_length]
theorem tk_step {P:List Psn}(h:Apart P){i:Nat}{p:Psn}(hp:P[i]? =some p){k:Nat}{n:Int}(hk:p.tch[k]? =some n)(m:Int) :
  (inT (P.take i++[p.tk (k + 1)]) m ↔ m=n∨inT (P.take i++[p.tk k]) m)∧keyIn (P.take i++[p.tk (k + 1)]) m=if m=n then p.key else keyIn (P.take i++[p.tk k]) m:=by
 have hmem:∀ m,m∈p.tch.take (k + 1) ↔ m=n∨m∈p.tch.take k:=fun m=>by
  rw [take_snoc hk,List.mem_append,List.mem_singleton];exact Or.comm
 have hin:∀ m,m∈p.tch.take k→m∈p.tch:=fun m hm=>List.mem_of_mem_take hm;have hnp:n∈p.tch:=List.mem_of_getElem? hk;have hor:∀ j m,¬ inT (P.take i) m∨m ∉ (p.tk j).tch:=fun j m=>by
  by_cases hm:m∈p.tch.take j
  ·exact .inl (h.at' hp (List.mem_of_mem_take hm))
  ·exact .inr hm
 refine ⟨?_,?_⟩
 ·rw [inT_app,inT_app];show _∨m∈p.tch.take (k + 1) ↔ _;rw [hmem];constructor
  ·rintro (h1 | h1 | h1)
   ·exact .inr (.inl h1)
   ·exact .inl h1
   ·exact .inr (.inr h1)
  ·rintro (h1 | h1 | h1)
   ·exact .inr (.inl h1)
   ·exact .inl h1
   ·exact .inr (.inr h1)
 ·rw [keyIn_app (hor _ _),keyIn_app (hor _ _)];show (if m∈p.tch.take (k + 1) then p.key else _)=if m=n then p.key else if m∈p.tch.take k then p.key else _;by_cases e:m=n
  ·rw [if_pos e,if_pos ((hmem m).2 (.inl e))]
  ·rw [if_neg e];by_cases e2:m∈p.tch.take k
   ·rw [if_pos e2,if_pos ((hmem m).2 (.inr e2))]
   ·rw [if_neg e2,if_neg (fun h=>((hmem m).1 h).elim e e2)]
theorem ShOk.stepA {P:List Psn}(h:Apart P){i:Nat}{p:Psn}(hp:P[i]? =some p){k:Nat}{n:Int}(hk:p.tch[k]? =some n){M:List (Int×Value)}(hM:ShOk (P.take i++[p.tk k]) [] M) :
  ShOk (P.take i++[p.tk (k + 1)]) [] (updG n (shV n p.key ⟨0,⟨#[]⟩⟩) M):=fun m=>by
 obtain ⟨h1,h2⟩:=tk_step h hp hk m;have he:∀ m,¬ inT [] m:=fun m ⟨_,h,_⟩=>by cases h
 have hz:∀ m,keyIn [] m=⟨0,⟨#[]⟩⟩:=fun m=>rfl;rw [getG_upd,h1,h2];obtain ⟨h3,h4⟩:=hM m;by_cases e:m=n
 ·subst e;rw [if_pos rfl,if_pos rfl];exact ⟨fun _=>rfl,fun h=>absurd (.inl (.inl rfl)) h⟩
 ·rw [if_neg e,if_neg e];exact ⟨fun h=>h3 (h.elim (fun h=>.inl (h.resolve_left e)) .inr),fun hn=>h4 (fun h=>hn (h.elim (fun h=>.inl (.inr h)) .inr))⟩
theorem ShOk.look {A B:List Psn}{M:List (Int×Value)}(h:ShOk A B M){n:Int}(hn:¬ inT B n):∃ m,(getG n M).getD (shV 0 ⟨0,⟨#[]⟩⟩ ⟨0,⟨#[]⟩⟩)=shV m (keyIn A n) ⟨0,⟨#[]⟩⟩:=by
 by_cases hA:inT A n
 ·exact ⟨n,by rw [(h n).1 (.inl hA),keyIn_none hn];rfl⟩
 ·exact ⟨0,by rw [(h n).2 (fun h=>h.elim hA hn),keyIn_none hA];rfl⟩
theorem ShOk.stepB {A P:List Psn}(h:Apart P){i:Nat}{p:Psn}(hp:P[i]? =some p){k:Nat}{n:Int}(hk:p.tch[k]? =some n){M:List (Int×Value)}(hM:ShOk A (P.take i++[p.tk k]) M) :
  ShOk A (P.take i++[p.tk (k + 1)]) (updG n (shV n (keyIn A n) p.key) M):=fun m=>by
 obtain ⟨h1,h2⟩:=tk_step h hp hk m;rw [getG_upd,h1,h2];obtain ⟨h3,h4⟩:=hM m;by_cases e:m=n
 ·subst e;rw [if_pos rfl,if_pos rfl];exact ⟨fun _=>rfl,fun h=>absurd (.inr (.inl rfl)) h⟩
 ·rw [if_neg e,if_neg e];exact ⟨fun h=>h3 (h.elim .inl (fun h=>.inr (h.resolve_left e))),fun hn=>h4 (fun h=>hn (h.elim .inl (fun h=>.inr (.inr h))))⟩
theorem tk_new {P:List Psn}(h:Apart P){i:Nat}{p:Psn}(hp:P[i]? =some p){k:Nat}{n:Int}(hk:p.tch[k]? =some n):¬ inT (P.take i++[p.tk k]) n:=by
 rw [inT_app];rintro (h1 | h1)
 ·exact h.at' hp (List.mem_of_getElem? hk) h1
 ·exact not_mem_take (h.up p (List.mem_of_getElem? hp)) hk h1
def shfOf (A B:List Psn)(n:Int):Option Shf:=if keyIn A n≠keyIn B n then some ⟨n,keyIn A n,keyIn B n⟩ else none
theorem shf_all {A B:List Psn}{M done:List (Int×Value)}(h:ShOk A B M)(hn:(M.map Prod.fst).Nodup)(hd:done.Perm M){l:List Shf}(hl:l.Perm (done.filterMap (fun p=>shfOf A B p.1)))(hs:l.Pairwise (fun s t=>s.no≤t.no)):IsShf A B l:=by
 have hk:∀ n,n∈M.map Prod.fst ↔ inT A n∨inT B n:=fun n=>by
  by_cases hm:inT A n∨inT B n
  ·exact ⟨fun _=>hm,fun _=>by
    have:=(h n).1 hm
    have h2:=getG_mem this;exact List.mem_map.2 ⟨_,h2,rfl⟩⟩
  ·exact ⟨fun e=>absurd e (getG_none.1 ((h n).2 hm)),fun e=>absurd e hm⟩
 have hkd:∀ n,n∈done.map Prod.fst ↔ inT A n∨inT B n:=fun n=>by rw [(hd.map Prod.fst).mem_iff];exact hk n
 have hnd:(done.map Prod.fst).Nodup:=(hd.map Prod.fst).nodup_iff.2 hn;have hmem:∀ s,s∈l ↔ (inT A s.no∨inT B s.no)∧s.a=keyIn A s.no∧s.b=keyIn B s.no∧s.a≠s.b:=fun s=>by
  rw [hl.mem_iff,List.mem_filterMap];constructor
  ·rintro ⟨p,hp,e⟩;unfold shfOf at e;split at e
   ·rename_i hne;obtain rfl:=Option.some.inj e;exact ⟨(hkd p.1).1 (List.mem_map_of_mem hp),rfl,rfl,hne⟩
   ·cases e
  ·rintro ⟨h1,h2,h3,h4⟩;obtain ⟨p,hp,e⟩:=List.mem_map.1 ((hkd s.no).2 h1);refine ⟨p,hp,?_⟩;unfold shfOf;rw [e,if_pos (by rw [← h2,← h3];exact h4),← h2,← h3]
 have hnos:(l.map Shf.no).Nodup:=by
  rw [(hl.map Shf.no).nodup_iff];have hsub:∀ d:List (Int×Value),((d.filterMap (fun p=>shfOf A B p.1)).map Shf.no).Sublist (d.map Prod.fst):=by
   intro d;induction d with
   | nil=>exact List.Sublist.slnil
   | cons p r ih =>
    rw [List.map_cons,List.filterMap_cons];unfold shfOf;split
    ·exact ih.cons _
    ·rename_i s e;split at e
     ·obtain rfl:=Option.some.inj e;exact ih.cons_cons _
     ·cases e
  exact hnd.sublist (hsub done)
 refine ⟨?_,hmem⟩;have h2:l.Pairwise (fun s t=>s.no≠t.no):=List.pairwise_map.1 hnos;exact (hs.and h2).imp (fun {a b} h=>by omega)
theorem shf_ref {A B:List Psn}{ns:List Int}(hs:ns.Pairwise (· < ·))(hm:∀ n,n∈ns ↔ inT A n∨inT B n):IsShf A B (ns.filterMap (shfOf A B)):=by
 refine ⟨?_,fun s=>?_⟩
 ·refine List.pairwise_filterMap.2 (hs.imp (fun {a b} hab s hs t ht=>?_));unfold shfOf at hs ht;split at hs <;> split at ht
  ·obtain rfl:=Option.some.inj hs;obtain rfl:=Option.some.inj ht;exact hab
  all_goals first | (cases hs;done) | cases ht
 ·rw [List.mem_filterMap];constructor
  ·rintro ⟨n,hn,e⟩;unfold shfOf at e;split at e
   ·rename_i hne;obtain rfl:=Option.some.inj e;exact ⟨(hm n).1 hn,rfl,rfl,hne⟩
   ·cases e
  ·rintro ⟨h1,h2,h3,h4⟩;refine ⟨s.no,(hm s.no).2 h1,?_⟩;unfold shfOf;rw [if_pos (by rw [← h2,← h3];exact h4),← h2,← h3]
end
section
open Go Go.RowKit
def ahdI (l:List Int)(k:Nat):Option Int:=match k with | 0=>none | k + 1=>l[k]?
theorem ahdI_succ {l:List Int}{k:Nat}{n:Int}(h:l[k]? =some n):ahdI l (k + 1)=some n:=h
theorem downs_at {l:List Int}{prev:Option Int}{k:Nat}{n:Int}(h:l[k]? =some n):downs prev (l.drop k)=(notAb prev n || downs (some n) (l.drop (k + 1))):=by rw [drop_at3 h,downs]
theorem twice_at {l S:List Int}{k:Nat}{n:Int}(h:l[k]? =some n):twice S (l.drop k)=(decide (n∈S) || twice (S++[n]) (l.drop (k + 1))):=by rw [drop_at3 h,twice]
theorem psns_stop {P:List Psn}{T:List Int}{j:Nat}{p:Psn}{R E:Int}(hp:P[j]? =some p)(hr:psnsGo T (P.drop j)=R)(h:psnF T p=E)(h0:E≠0):R=E:=by
 rw [drop_at3 hp,psnsGo,h,if_pos h0] at hr;exact hr.symm
theorem psns_go {P:List Psn}{T:List Int}{j:Nat}{p:Psn}{R:Int}(hp:P[j]? =some p)(hr:psnsGo T (P.drop j)=R)(h:psnF T p=0):psnsGo (T++p.tch) (P.drop (j + 1))=R:=by
 rw [drop_at3 hp,psnsGo,h,if_neg (by decide)] at hr;exact hr
theorem psnF_id {T:List Int}{p:Psn}{F:Int}(h:L.idFault p.key.k p.key.t=F)(h0:F≠0):psnF T p=F:=by unfold psnF;rw [h,if_pos h0]
theorem psnF_len {T:List Int}{p:Psn}(h:L.idFault p.key.k p.key.t=0)(h1:p.tch.length=0):psnF T p=3:=by unfold psnF;rw [h,if_neg (by decide),if_pos h1]
theorem psnF_down {T:List Int}{p:Psn}(h:L.idFault p.key.k p.key.t=0)(h1:¬ p.tch.length=0)(h2:downs none p.tch=true):psnF T p=7:=by unfold psnF;rw [h,if_neg (by decide),if_neg h1,if_pos h2]
theorem psnF_twice {T:List Int}{p:Psn}(h:L.idFault p.key.k p.key.t=0)(h1:¬ p.tch.length=0)(h2:downs none p.tch=false)(h3:twice T p.tch=true):psnF T p=6:=by unfold psnF;rw [h,if_neg (by decide),if_neg h1,if_neg (by rw [h2];decide),if_pos h3]
theorem psnF_ok {T:List Int}{p:Psn}(h:L.idFault p.key.k p.key.t=0)(h1:¬ p.tch.length=0)(h2:downs none p.tch=false)(h3:twice T p.tch=false):psnF T p=0:=by unfold psnF;rw [h,if_neg (by decide),if_neg h1,if_neg (by rw [h2];decide),if_neg (by rw [h3];decide)]
def SeenOk (T:List Int)(L:List (Int×Value)):Prop:=∀ n,getG n L=if n∈T then some (.bool true) else none
theorem SeenOk.nil:SeenOk [] []:=fun n=>by simp [getG]
theorem SeenOk.put {T:List Int}{L:List (Int×Value)}(h:SeenOk T L)(n:Int):SeenOk (T++[n]) (updG n (.bool true) L):=fun m=>by
 rw [getG_upd,h m];by_cases e:m=n
 ·subst e;simp
 ·rw [if_neg e];simp [e]
theorem SeenOk.look {T:List Int}{L:List (Int×Value)}(h:SeenOk T L)(n:Int):(getG n L).getD (.bool false)=.bool (decide (n∈T)):=by
 rw [h n];by_cases e:n∈T
 ·rw [if_pos e,decide_eq_true e];rfl
 ·rw [if_neg e,decide_eq_false e];rfl
set_option maxHeartbeats 4000000 in
set_option maxRecDepth 100000 in
theorem refPsns_any (N:Nat→Prop)(P:List Psn)(A:Option Addr)(c:Nat)(w:World)(hS:Sl rPsn N w A P)(hl:P.length≤1000000)(hs:∀ p∈P,p.tch.length≤1000000∧p.key.t.size≤1000000)(hM:MaxL w) :
  Calls Tryz.prog 90 #[.slice A P.length c] w fun e w'=>e=.returned (.int .i64 (psnsF P))∧Below w.heap.size w w':=by
 have HS:=Lib.hid (fun w' (h:Below w.heap.size w w')=>hS.keepB h);have HM:=Lib.hid (fun w' (h:Below w.heap.size w w')=>hM.below h);have Hs:=Lib.hid hs;clear hS hM hs;obtain ⟨R,HR⟩:∃ R,Hid (psnsF P=R):=⟨_,Lib.hid rfl⟩;rw [HR.out];obtain ⟨X,hX⟩:∃ X,X=w.heap.size:=⟨_,rfl⟩;have hmm:=@run_makeMap Tryz.prog;have S:Mem w (w.alloc (.map #[] 0)) [.mapG keyInt X []]:=(Mem.start w).newMapG keyInt X hX;go_enter Tryz.func90,Tryz.ntmps90
 go_upto_region 2 with fail
 rw [← hX];clear hX hmm;generalize w.alloc (.map #[] 0)=w1 at *;go_wp2_with fail
 go_loopw [14] (fun i wr=>∃ (j:Nat) (La:List (Int×Value)) (T:List Int),j≤P.length∧i=.int .i64 j∧Hid (psnsGo T (P.drop j)=R)∧Hid (SeenOk T La)∧Mem w wr [.mapG keyInt X La]) (fun i _=>P.length - (intOf i).toNat)
 case atStart=>exact ⟨0,[],[],Nat.zero_le _,rfl,HR.out,SeenOk.nil,S⟩
 case round =>
  clear S HR;obtain ⟨j,La,T,hj,rfl,Hr,HL,S⟩:=hrel;by_cases hlt:j < P.length
  ·obtain ⟨p,hp⟩:∃ p,P[j]? =some p:=⟨_,List.getElem?_eq_getElem hlt⟩;obtain ⟨b1,o1,At,at',Ai,ai,rfl,hb1,c0,c1,c2,c3,s1,s2⟩:=(HS.out w (Below.refl _ _)).psn j p hp;have hcl:=fun (q:Addr) (hq:q.block < w.heap.size)=>S.b.cell hq;rw [← hcl _ hb1] at c0 c1 c2 c3;clear hcl;have hpl:=Hs.out p (List.mem_of_getElem? hp);have Hst:=Lib.hid (fun (E:Int) (h:psnF T p=E) (h0:E≠0)=>psns_stop hp Hr.out h h0);have Hgo:=Lib.hid (fun (h:psnF T p=0)=>psns_go hp Hr.out h);have Hsl:=Lib.hid (fun w' (h:Below w.heap.size w w')=>s1.keepB h);have Hpl:=Lib.hid hpl;have hpl2:p.tch.length≤1000000:=hpl.1;clear hp s1 s2 hpl Hr;obtain ⟨U,hU⟩:∃ U,U=wr.heap.size:=⟨_,rfl⟩;have S2:Mem w (wr.alloc (.cells (psCs p At at' Ai ai) 80)) [.mapG keyInt X La,.loc U (psCs p At at' Ai ai) 80]:=S.newAt (psCs p At at' Ai ai) 80 U hU;go_upto_region 5 with fail
   rw [← hU];clear hU S c0 c1 c2 c3;generalize wr.alloc (.cells (psCs p At at' Ai ai) 80)=w2 at *;have Hid2:=Lib.hid (refId_any p.key.k p.key.t w2 Hpl.out.2 (HM.out w2 S2.b));obtain ⟨F,HF⟩:∃ F,Hid (L.idFault p.key.k p.key.t=F):=⟨_,Lib.hid rfl⟩;rw [HF.out] at Hid2;have l1:=(S2.lv 1 rfl).all;go_wp2_with fail
   refine (Hid2.out).mono ?_;rintro e w3 ⟨rfl,hl3⟩;have S3:=S2.below hl3;clear l1 S2 hl3 Hid2;have l1:=(S3.lv 1 rfl).all;by_cases hF:F=0
   ·subst hF;by_cases hlen:p.tch.length=0
    ·have hn:(3:Int)=R:=(Hst.out 3 (psnF_len HF.out hlen) (by decide)).symm;have h0:((p.tch.length:Int)==0)=true:=by simp [hlen]
     have Hn:=Lib.hid hn;clear hn;go_wp2_with fail
     go_ret;exact ⟨ret_i Hn.out,S3.b⟩
    ·have h0:((p.tch.length:Int)==0)=false:=by simpa using hlen
     have Hlen:=Lib.hid hlen;clear hlen;go_wp2_with fail
     go_loopw [31] (fun i wx=>∃ (k:Nat),k≤p.tch.length∧i=.int .i64 k∧Hid (downs (ahdI p.tch k) (p.tch.drop k)=downs none p.tch)∧Below w3.heap.size w3 wx) (fun i _=>p.tch.length - (intOf i).toNat)
     case atStart=>exact ⟨0,Nat.zero_le _,rfl,rfl,Below.refl _ _⟩
     case round =>
      clear h0 l1;obtain ⟨k,hk,rfl,Hd,hbx⟩:=hrel;have S4:=S3.below hbx;have l1:=(S4.lv 1 rfl).all;by_cases hlt2:k < p.tch.length
      ·obtain ⟨n,hn⟩:∃ n,p.tch[k]? =some n:=⟨_,List.getElem?_eq_getElem hlt2⟩;obtain ⟨b5,o5,rfl,hb5,d0⟩:=(Hsl.out _ S4.b).int k n hn;have Hk:=Lib.hid (downs_at (prev:=ahdI p.tch k) hn);have Hx:=Lib.hid (ahdI_succ hn);by_cases hk0:k=0
       ·subst hk0;have Hd2:Hid (downs (ahdI p.tch 1) (p.tch.drop 1)=downs none p.tch):=by show _=_;rw [Hx.out,← Hd.out,Hk.out];rfl
        rw [Nat.add_zero] at d0;clear Hk Hd Hx hn;go_wp2_with fail
        go_roundw
        case rel=>exact ⟨1,by omega,by go_num,Hd2.out,hbx⟩
        case measure=>simp [intOf];omega
       ·obtain ⟨q,rfl⟩:∃ q,k=q + 1:=⟨k - 1,by omega⟩;obtain ⟨y,hy⟩:∃ y,p.tch[q]? =some y:=⟨_,List.getElem?_eq_getElem (by omega)⟩;obtain ⟨_,_,e,hb6,e0⟩:=(Hsl.out _ S4.b).int q y hy;cases e;have hk1:decide ((0:Int) < ((q + 1:Nat):Int))=true:=by simp
        have hk2:((q + 1:Nat):Int) - 1=(q:Int):=by omega
        have Ha:Hid (ahdI p.tch (q + 1)=some y):=ahdI_succ hy;by_cases hc:n≤y
        ·have Ht:Hid (downs none p.tch=true):=by show _=_;rw [← Hd.out,Hk.out,Ha.out];simp [notAb,hc]
         have hn7:(7:Int)=R:=(Hst.out 7 (psnF_down HF.out Hlen.out Ht.out) (by decide)).symm;have Hn:=Lib.hid hn7;clear hn7 Ht Ha Hk Hd Hx hn hy;go_wp2_with fail
         go_ret;exact ⟨ret_i Hn.out,S4.b⟩
        ·have Hd2:Hid (downs (ahdI p.tch (q + 1 + 1)) (p.tch.drop (q + 1 + 1))=downs none p.tch):=by show _=_;rw [Hx.out,← Hd.out,Hk.out,Ha.out];simp [notAb,hc]
         clear Ha Hk Hd Hx hn hy;go_wp2_with fail
         go_roundw
         case rel=>exact ⟨q + 1 + 1,by omega,by go_num,Hd2.out,hbx⟩
         case measure=>simp [intOf];omega
      ·obtain rfl:k=p.tch.length:=by omega
       have Hdn:Hid (downs none p.tch=false):=by show _=_;rw [← Hd.out,List.drop_length];rfl
       have HT0:Hid (SeenOk (T++p.tch.take 0) La):=by show SeenOk _ _;rw [List.take_zero,List.append_nil];exact HL.out
       have Ht0:Hid (twice (T++p.tch.take 0) (p.tch.drop 0)=twice T p.tch):=by show _=_;rw [List.take_zero,List.append_nil,List.drop_zero]
       clear Hd S3 hbx;go_wp2_with fail
       go_loopw [52] (fun i wx=>∃ (k:Nat) (L2:List (Int×Value)),k≤p.tch.length∧i=.int .i64 k∧Hid (twice (T++p.tch.take k) (p.tch.drop k)=twice T p.tch)∧Hid (SeenOk (T++p.tch.take k) L2)∧Mem w wx [.mapG keyInt X L2,.loc U (psCs p At at' Ai ai) 80]) (fun i _=>p.tch.length - (intOf i).toNat)
       case atStart=>exact ⟨0,La,Nat.zero_le _,rfl,Ht0.out,HT0.out,S4⟩
       case round =>
        clear S4 l1 HT0 Ht0;obtain ⟨k,L2,hk,rfl,Htw,HL2,S5⟩:=hrel;by_cases hlt3:k < p.tch.length
        ·obtain ⟨n,hn⟩:∃ n,p.tch[k]? =some n:=⟨_,List.getElem?_eq_getElem hlt3⟩;obtain ⟨b5,o5,rfl,hb5,d0⟩:=(Hsl.out _ S5.b).int k n hn;have hlk:=HL2.out.look n;have Hk:=Lib.hid (twice_at (S:=T++p.tch.take k) hn);have Htk:Hid (T++p.tch.take (k + 1)=T++p.tch.take k++[n]):=by show _=_;rw [take_snoc hn,List.append_assoc]
         clear hn;by_cases hm:n∈T++p.tch.take k
         ·have hlk2:(getG n L2).getD (.bool false)=.bool true:=by rw [hlk,decide_eq_true hm]
          have hn6:(6:Int)=R:=(Hst.out 6 (psnF_twice HF.out Hlen.out Hdn.out (by rw [← Htw.out,Hk.out,decide_eq_true hm];rfl)) (by decide)).symm;have Hn:=Lib.hid hn6;have HS5:=Lib.hid S5.b;clear hn6 hlk Hk Htk Htw hm;go_wp2_with (at_lookup;refine S5.lookG 0 rfl (T:=247) (E:=4) (by kernel_rfl) (z:=.bool false) (fun _=>rfl) rfl _ _ false rfl rfl n rfl ?_;rw [if_neg (by decide),hlk2])
          go_ret;exact ⟨ret_i Hn.out,HS5.out⟩
         ·have hlk2:(getG n L2).getD (.bool false)=.bool false:=by rw [hlk,decide_eq_false hm]
          have Htw2:Hid (twice (T++p.tch.take (k + 1)) (p.tch.drop (k + 1))=twice T p.tch):=by show _=_;rw [← Htw.out,Hk.out,decide_eq_false hm,Htk.out];rfl
          have HL3:Hid (SeenOk (T++p.tch.take (k + 1)) (updG n (.bool true) L2)):=by show SeenOk _ _;rw [Htk.out];exact HL2.out.put n
          clear hlk Hk Htk Htw hm HL2;go_wp2_with (first | (at_lookup;refine S5.lookG 0 rfl (T:=247) (E:=4) (by kernel_rfl) (z:=.bool false) (fun _=>rfl) rfl _ _ false rfl rfl n rfl ?_;rw [if_neg (by decide),hlk2]) | (at_mapUpdate;refine S5.putG 0 rfl (T:=247) (E:=4) (by kernel_rfl) rfl _ _ _ rfl rfl n rfl (.bool true) rfl ?_;intro w7 S7))
          go_roundw
          case rel=>exact ⟨k + 1,_,by omega,by go_num,Htw2.out,HL3.out,S7⟩
          case measure=>simp [intOf];omega
        ·obtain rfl:k=p.tch.length:=by omega
         have Htf:Hid (twice T p.tch=false):=by show _=_;rw [← Htw.out,List.drop_length];rfl
         have Hr2:=Lib.hid (Hgo.out (psnF_ok HF.out Hlen.out Hdn.out Htf.out));have HL3:Hid (SeenOk (T++p.tch) L2):=by have:=HL2.out;rw [List.take_length] at this;exact this
         have S6:=S5.del 1;clear S5 HL2 Htw;go_wp2_with fail
         go_roundw
         case rel=>exact ⟨j + 1,L2,T++p.tch,by omega,by go_num,Hr2.out,HL3.out,S6⟩
         case measure=>simp [intOf];omega
   ·have hn:F=R:=(Hst.out F (psnF_id HF.out hF) hF).symm;have h0:(F != 0)=true:=by simpa using hF
    have Hn:=Lib.hid hn;clear hn;go_wp2_with fail
    go_ret;exact ⟨ret_i Hn.out,S3.b⟩
  ·obtain rfl:j=P.length:=by omega
   have hn:(0:Int)=R:=by rw [← Hr.out,List.drop_length];rfl
   have Hn:=Lib.hid hn;clear hn;go_wp2_with fail
   go_ret;exact ⟨ret_i Hn.out,S.b⟩
end
section
open Go Go.RowKit Go.Sort Go.Shelf
def Shf.cells (s:Shf):List Value:=[.int .i64 s.no,.int .i64 s.a.k,.string s.a.t,.int .i64 s.b.k,.string s.b.t]
def rShf:Rep Shf:=.flat 5 Shf.cells (fun _=>rfl)
theorem flatShf:rShf.Flat Shf.cells:=fun _ _ _ _=>Iff.rfl
theorem tyShf:STy 63 77 rShf.size 56 (.agg #[.int .i64 0,.int .i64 0,.string ⟨#[]⟩,.int .i64 0,.string ⟨#[]⟩]):=⟨Tryz.underlying63,by kernel_rfl,rfl,by decide⟩
theorem oneShf (s:Shf):∀ u∈s.cells,u.oneCell'=true:=fun u hu=>by
 simp only [Shf.cells,List.mem_cons,List.not_mem_nil,or_false] at hu;rcases hu with rfl | rfl | rfl | rfl | rfl <;> rfl
theorem zeroShf (w:World):(zeroValue 77).run Tryz.prog w=.ok (shV 0 ⟨0,⟨#[]⟩⟩ ⟨0,⟨#[]⟩⟩) w:=by kernel_rfl
theorem fieldShf (m k z:Int)(t u:ByteArray)(w:World):(Instr.field 77 (.agg #[.int .i64 m,.int .i64 k,.string t,.int .i64 z,.string u]) 1).run Tryz.prog w=.ok (.agg #[.int .i64 k,.string t]) w:=by
 have u48:=Tryz.underlying77;have a4:=Tryz.isAgg46;simp only [Instr.field,run_underlying u48,Sem.run_bind,Result.andThen_ok];go_simp;first | rfl | simp [asAgg]
def cmpShf (a b:Shf):Int:=Lib.compareInt a.no b.no
theorem cmpShf_ok:CmpOk cmpShf:=⟨fun a b=>cmpOkI.anti a.no b.no,fun a b d=>cmpOkI.trans a.no b.no d.no⟩
theorem cmpShf_le {a b:Shf}(h:cmpShf a b≤0):a.no≤b.no:=by
 unfold cmpShf Lib.compareInt at h;split at h
 ·omega
 ·split at h <;> omega
abbrev shCs (s:Shf):Array Value:=#[.int .i64 s.no,.int .i64 s.a.k,.string s.a.t,.int .i64 s.b.k,.string s.b.t]
theorem differ1_any (a b:Shf)(w:World):Calls Tryz.prog 231 #[.agg (shCs a),.agg (shCs b)] w fun e w'=>e=.returned (.int .i64 (cmpShf a b))∧Grew w w':=by
 obtain ⟨X,hX⟩:∃ X,X=w.heap.size:=⟨_,rfl⟩;have S1:=(Mem.start w).newAt (shCs a) 77 X hX;have S:Mem w _ [.loc X (shCs a) 77,.loc (X + 1) (shCs b) 77]:=S1.newAt (shCs b) 77 (X + 1) (by rw [hX,World.size_alloc]);have Hg:Hid (Grew w ((w.alloc (.cells (shCs a) 77)).alloc (.cells (shCs b) 77))):=((Grew.refl _).alloc _).alloc _;clear S1;go_enter Tryz.func231,Tryz.ntmps231
 go_upto_region 1 with fail
 rw [← hX];clear hX;generalize (w.alloc (.cells (shCs a) 77)).alloc (.cells (shCs b) 77)=w2 at *;have l0:=(S.lv 0 rfl).all;have l1:=(S.lv 1 rfl).all;have Hc:=Lib.hid (cmpInt_any a.no b.no w2);go_wp2_with fail
 refine (Hc.out).mono ?_;rintro e _ ⟨rfl,rfl⟩;go_wp2_with fail
 go_ret;exact ⟨rfl,Hg.out⟩
theorem sortShf_any {w0 w:World}{cs:List Chunk}(S:Mem w0 w cs)(i:Nat){B:Nat}{v:Value}{xs:List Shf}(hi:cs[i]? =some (.own rShf B 77 v xs))(hl:xs.length≤1000000) :
  Calls Tryz.prog 230 #[v,.func (.func 231) #[] #[]] w (GivesSorted rShf cmpShf w0 cs i B 77 v xs) :=
 haveI:Inhabited Shf:=⟨⟨0,⟨0,⟨#[]⟩⟩,⟨0,⟨#[]⟩⟩⟩⟩
 sortFn_own flatShf (by decide) (fun _=>rfl) oneShf Tryz.laysSf230 Tryz.isAgg77 Tryz.sizeOf77 (fun _=>True) cmpShf cmpShf cmpShf_ok (fun _ _=>Iff.rfl) 231 (enters_of Tryz.func231 (by kernel_rfl) rfl) (fun a b _ _ w=>differ1_any a b w) S i hi (fun _ _=>trivial) hl
def GivesShf (P Q:List Psn)(w:World)(e:Ending)(w':World):Prop :=
 ∃ (A:Option Addr) (c:Nat) (l:List Shf),e=.returned (.slice A l.length c)∧IsShf P Q l∧Mem w w' [.sl rShf A l]
theorem sh_len {P Q:List Psn}{M:List (Int×Value)}(h:ShOk P Q M)(hn:(M.map Prod.fst).Nodup):M.length≤(P.flatMap Psn.tch).length + (Q.flatMap Psn.tch).length:=by
 have h1:=sub_len (m:=P.flatMap Psn.tch++Q.flatMap Psn.tch) hn (fun n hn=>by
  by_cases hm:inT P n∨inT Q n
  ·rcases hm with ⟨p,hp,h⟩ | ⟨p,hp,h⟩
   ·exact List.mem_append_left _ (List.mem_flatMap.2 ⟨p,hp,h⟩)
   ·exact List.mem_append_right _ (List.mem_flatMap.2 ⟨p,hp,h⟩)
  ·exact absurd hn (getG_none.1 ((h n).2 hm)))
 rw [List.length_map,List.length_append] at h1;exact h1
theorem sh_at {P Q:List Psn}{M:List (Int×Value)}(h:ShOk P Q M)(hn:(M.map Prod.fst).Nodup){n:Int}{v:Value}(hm:(n,v)∈M):v=shV n (keyIn P n) (keyIn Q n):=by
 obtain ⟨j,hj⟩:=List.mem_iff_getElem?.1 hm;have h1:=(getG_at hn hj).1;by_cases hi:inT P n∨inT Q n
 ·rw [(h n).1 hi] at h1;exact (Option.some.inj h1).symm
 ·rw [(h n).2 hi] at h1;cases h1
theorem shf_snoc {P Q:List Psn}(dq:List (Int×Value))(p:Int×Value):(dq++[p]).filterMap (fun p=>shfOf P Q p.1)=dq.filterMap (fun p=>shfOf P Q p.1)++(shfOf P Q p.1).toList:=by
 rw [List.filterMap_append,List.filterMap_cons];cases shfOf P Q p.1 <;> rfl
set_option maxHeartbeats 8000000 in
set_option maxRecDepth 100000 in
theorem differ_any (N:Nat→Prop)(P Q:List Psn)(A B:Option Addr)(ca cb:Nat)(w:World)(hA:Sl rPsn N w A P)(hB:Sl rPsn N w B Q)(hl:P.length≤1000000)(hl2:Q.length≤1000000)
  (hs:∀ p∈P,p.tch.length≤1000000) (hs2:∀ p∈Q,p.tch.length≤1000000) (hf:(P.flatMap Psn.tch).length + (Q.flatMap Psn.tch).length≤900000) (hP:Apart P) (hQ:Apart Q) :
  Calls Tryz.prog 156 #[.slice A P.length ca,.slice B Q.length cb] w (GivesShf P Q w):=by
 have HA:=Lib.hid hA;have HB:=Lib.hid hB;have Hs:=Lib.hid hs;have Hs2:=Lib.hid hs2;have Hf:=Lib.hid hf;have HP:=Lib.hid hP;have HQ:=Lib.hid hQ;clear hA hB hs hs2 hf hP hQ;obtain ⟨X,hX⟩:∃ X,X=w.heap.size:=⟨_,rfl⟩;have hmm:=@run_makeMap Tryz.prog;have S:Mem w (w.alloc (.map #[] 0)) [.mapG keyInt X []]:=(Mem.start w).newMapG keyInt X hX;go_enter Tryz.func156,Tryz.ntmps156
 go_upto_region 2 with fail
 rw [← hX];clear hX hmm;generalize w.alloc (.map #[] 0)=w1 at *;go_wp2_with fail
 go_loopw [20] (fun i wr=>∃ (j:Nat) (La:List (Int×Value)),j≤P.length∧i=.int .i64 j∧Hid (ShOk (P.take j) [] La)∧Mem w wr [.mapG keyInt X La]) (fun i _=>P.length - (intOf i).toNat)
 case atStart=>exact ⟨0,[],Nat.zero_le _,rfl,(by show ShOk _ _ _;rw [List.take_zero];exact ShOk.start),S⟩
 case round =>
  clear S;obtain ⟨j,La,hj,rfl,HL,S⟩:=hrel;by_cases hlt:j < P.length
  ·obtain ⟨p,hp⟩:∃ p,P[j]? =some p:=⟨_,List.getElem?_eq_getElem hlt⟩;obtain ⟨b1,o1,At,at',Ai,ai,rfl,hb1,c0,c1,c2,c3,s1,s2⟩:=HA.out.psn j p hp;have hcl:=fun (q:Addr) (hq:q.block < w.heap.size)=>S.b.cell hq;rw [← hcl _ hb1] at c0 c1 c2 c3;clear hcl;have hpl2:=Hs.out p (List.mem_of_getElem? hp);have Hsl:=Lib.hid (fun w' (h:Below w.heap.size w w')=>s1.keepB h);have Hp:=Lib.hid hp;clear hp s1 s2;obtain ⟨U,hU⟩:∃ U,U=wr.heap.size:=⟨_,rfl⟩;have S2:Mem w (wr.alloc (.cells (psCs p At at' Ai ai) 80)) [.mapG keyInt X La,.loc U (psCs p At at' Ai ai) 80]:=S.newAt (psCs p At at' Ai ai) 80 U hU;go_upto_region 5 with fail
   rw [← hU];clear hU S c0 c1 c2 c3;generalize wr.alloc (.cells (psCs p At at' Ai ai) 80)=w2 at *;have l1:=(S2.lv 1 rfl).all;have HL0:Hid (ShOk (P.take j++[p.tk 0]) [] La):=HL.out.begA p;clear HL;go_wp2_with fail
   go_loopw [27] (fun i wx=>∃ (k:Nat) (L2:List (Int×Value)),k≤p.tch.length∧i=.int .i64 k∧Hid (ShOk (P.take j++[p.tk k]) [] L2)∧Mem w wx [.mapG keyInt X L2,.loc U (psCs p At at' Ai ai) 80]) (fun i _=>p.tch.length - (intOf i).toNat)
   case atStart=>exact ⟨0,La,Nat.zero_le _,rfl,HL0.out,S2⟩
   case round =>
    clear S2 l1 HL0;obtain ⟨k,L2,hk,rfl,HL2,S5⟩:=hrel;by_cases hlt3:k < p.tch.length
    ·obtain ⟨n,hn⟩:∃ n,p.tch[k]? =some n:=⟨_,List.getElem?_eq_getElem hlt3⟩;obtain ⟨b5,o5,rfl,hb5,d0⟩:=(Hsl.out _ S5.b).int k n hn;have HL3:=Lib.hid (HL2.out.stepA HP.out Hp.out hn);have l1:=(S5.lv 1 rfl).all;clear hn HL2;go_wp2_with (at_mapUpdate;refine S5.putG 0 rfl (T:=293) (E:=77) (by kernel_rfl) rfl _ _ _ rfl rfl n rfl (shV n p.key ⟨0,⟨#[]⟩⟩) rfl ?_;intro w7 S7)
     go_roundw
     case rel=>exact ⟨k + 1,_,by omega,by go_num,HL3.out,S7⟩
     case measure=>simp [intOf];omega
    ·obtain rfl:k=p.tch.length:=by omega
     have HL3:Hid (ShOk (P.take (j + 1)) [] L2):=by have:=HL2.out;rw [tk_full,← take_snoc Hp.out] at this;exact this
     have S6:=S5.del 1;clear S5 HL2;go_wp2_with fail
     go_roundw
     case rel=>exact ⟨j + 1,L2,by omega,by go_num,HL3.out,S6⟩
     case measure=>simp [intOf];omega
  ·obtain rfl:j=P.length:=by omega
   have HL1:Hid (ShOk P [] La):=by have:=HL.out;rw [List.take_length] at this;exact this
   clear HL;go_wp2_with fail
   go_loopw [41] (fun i wr=>∃ (j:Nat) (La:List (Int×Value)),j≤Q.length∧i=.int .i64 j∧Hid (ShOk P (Q.take j) La)∧Mem w wr [.mapG keyInt X La]) (fun i _=>Q.length - (intOf i).toNat)
   case atStart=>exact ⟨0,La,Nat.zero_le _,rfl,(by show ShOk _ _ _;rw [List.take_zero];exact HL1.out),S⟩
   case round =>
    clear S HL1;obtain ⟨j,La,hj,rfl,HL,S⟩:=hrel;by_cases hlt:j < Q.length
    ·obtain ⟨p,hp⟩:∃ p,Q[j]? =some p:=⟨_,List.getElem?_eq_getElem hlt⟩;obtain ⟨b1,o1,At,at',Ai,ai,rfl,hb1,c0,c1,c2,c3,s1,s2⟩:=HB.out.psn j p hp;have hcl:=fun (q:Addr) (hq:q.block < w.heap.size)=>S.b.cell hq;rw [← hcl _ hb1] at c0 c1 c2 c3;clear hcl;have hpl2:=Hs2.out p (List.mem_of_getElem? hp);have Hsl:=Lib.hid (fun w' (h:Below w.heap.size w w')=>s1.keepB h);have Hp:=Lib.hid hp;clear hp s1 s2;obtain ⟨U,hU⟩:∃ U,U=wr.heap.size:=⟨_,rfl⟩;have S2:Mem w (wr.alloc (.cells (psCs p At at' Ai ai) 80)) [.mapG keyInt X La,.loc U (psCs p At at' Ai ai) 80]:=S.newAt (psCs p At at' Ai ai) 80 U hU;go_upto_region 14 with fail
     rw [← hU];clear hU S c0 c1 c2 c3;generalize wr.alloc (.cells (psCs p At at' Ai ai) 80)=w2 at *;have l1:=(S2.lv 1 rfl).all;have HL0:Hid (ShOk P (Q.take j++[p.tk 0]) La):=HL.out.begB p;clear HL;go_wp2_with fail
     go_loopw [48] (fun i wx=>∃ (k:Nat) (L2:List (Int×Value)),k≤p.tch.length∧i=.int .i64 k∧Hid (ShOk P (Q.take j++[p.tk k]) L2)∧Mem w wx [.mapG keyInt X L2,.loc U (psCs p At at' Ai ai) 80]) (fun i _=>p.tch.length - (intOf i).toNat)
     case atStart=>exact ⟨0,La,Nat.zero_le _,rfl,HL0.out,S2⟩
     case round =>
      clear S2 l1 HL0;obtain ⟨k,L2,hk,rfl,HL2,S5⟩:=hrel;by_cases hlt3:k < p.tch.length
      ·obtain ⟨n,hn⟩:∃ n,p.tch[k]? =some n:=⟨_,List.getElem?_eq_getElem hlt3⟩;obtain ⟨b5,o5,rfl,hb5,d0⟩:=(Hsl.out _ S5.b).int k n hn;obtain ⟨m,hlk⟩:∃ m,(getG n L2).getD (shV 0 ⟨0,⟨#[]⟩⟩ ⟨0,⟨#[]⟩⟩)=.agg #[.int .i64 m,.int .i64 (keyIn P n).k,.string (keyIn P n).t,.int .i64 0,.string ⟨#[]⟩]:=HL2.out.look (tk_new HQ.out Hp.out hn);have hfm:=fieldShf;have HL3:=Lib.hid (HL2.out.stepB HQ.out Hp.out hn);have l1:=(S5.lv 1 rfl).all;obtain ⟨ky,hky⟩:∃ ky,keyIn P n=ky:=⟨_,rfl⟩;rw [hky] at hlk HL3;clear hn HL2 hky;go_wp2_with (first | (at_lookup;refine S5.lookG 0 rfl (T:=293) (E:=77) (by kernel_rfl) (z:=shV 0 ⟨0,⟨#[]⟩⟩ ⟨0,⟨#[]⟩⟩) zeroShf rfl _ _ false rfl rfl n rfl ?_;rw [if_neg (by decide),hlk]) | (at_mapUpdate;refine S5.putG 0 rfl (T:=293) (E:=77) (by kernel_rfl) rfl _ _ _ rfl rfl n rfl (shV n ky p.key) rfl ?_;intro w7 S7))
       go_roundw
       case rel=>exact ⟨k + 1,_,by omega,by go_num,HL3.out,S7⟩
       case measure=>simp [intOf];omega
      ·obtain rfl:k=p.tch.length:=by omega
       have HL3:Hid (ShOk P (Q.take (j + 1)) L2):=by have:=HL2.out;rw [tk_full,← take_snoc Hp.out] at this;exact this
       have S6:=S5.del 1;clear S5 HL2;go_wp2_with fail
       go_roundw
       case rel=>exact ⟨j + 1,L2,by omega,by go_num,HL3.out,S6⟩
       case measure=>simp [intOf];omega
    ·obtain rfl:j=Q.length:=by omega
     have HL1:Hid (ShOk P Q La):=by have:=HL.out;rw [List.take_length] at this;exact this
     clear HL;obtain ⟨es,clock,hE,S3⟩:=S.frzG 0 rfl;have HE:=Lib.hid hE;have Hnd:=Lib.hid hE.nd;have Hlen:=Lib.hid (sh_len HL1.out hE.nd);obtain ⟨hrg,S4⟩:=S3.rangeG 0 rfl (T:=293) (k:=3) (e:=77) (by kernel_rfl);obtain ⟨Z,hZ⟩:∃ Z,Z=wr.heap.size:=⟨_,rfl⟩;rw [← hZ] at hrg S4;replace S4:Mem w (wr.alloc (.mapIter (some X) clock #[] clock)) [.mapE X es clock,.iter Z X clock #[] clock]:=S4;clear hZ S S3 hE;go_wp2_with fail
     clear hrg;generalize wr.alloc (.mapIter (some X) clock #[] clock)=w4 at *;obtain ⟨Bk,hBk⟩:∃ Bk,Bk=w.heap.size:=⟨_,rfl⟩;have S5:Mem w w4 [.own rShf Bk 77 (.slice none 0 0) [],.mapE X es clock,.iter Z X clock #[] clock]:=(S4.nil rShf Bk 77).front;have Hb:=Lib.hid hBk;clear S4 hBk;have HR0:Hid (RngOk keyInt es clock #[] La [] La):=RngOk.start HE.out;go_loopw [14] (fun v wr=>∃ (seen:Array Nat) (dq left:List (Int×Value)) (xs:List Shf) (A8:Option Addr) (c8:Nat),v=.slice A8 xs.length c8∧Hid (RngOk keyInt es clock seen La dq left)∧Hid (xs=dq.filterMap (fun p=>shfOf P Q p.1))∧Mem w wr [.own rShf Bk 77 (.slice A8 xs.length c8) xs,.mapE X es clock,.iter Z X clock seen clock]) (fun _ wr=>iterLeft es Z wr)
     case atStart=>exact ⟨#[],[],La,[],none,0,rfl,HR0.out,rfl,S5⟩
     case round =>
      clear S5 HR0;obtain ⟨seen,dq,left,xs,A8,c8,rfl,HRg,Hxs,S3⟩:=hrel;have hsz3:Hid (iterLeft es Z wr=left.length):=S3.iterSize 2 rfl HRg.out;have hxl:xs.length≤1000000:=by
       have h1:=HRg.out.perm.length_eq;have h2:=congrArg List.length Hxs.out;have h3:=List.length_filterMap_le (fun p:Int×Value=>shfOf P Q p.1) dq;have h4:=Hlen.out;have h5:=Hf.out;simp only [List.length_append] at h1;omega
      rcases S3.nextG 1 2 rfl rfl (Nat.le_refl _) HRg.out with ⟨hl0,hp0,hnx⟩ | ⟨pq,left',seen',w5,hpm,hll,hrg,hnx,hen,S5⟩
      ·have S6:Mem w wr [.own rShf Bk 77 (.slice A8 xs.length c8) xs]:=(S3.del 2).del 1;have Hp0:=Lib.hid hp0;have Hs9:=Lib.hid (sortShf_any S6 0 rfl hxl);clear hp0 hl0 S3 S6 hsz3;go_wp2_with fail
       refine (Hs9.out).mono ?_;rintro e w6 ⟨rfl,ys,hperm,hord,S7⟩;have HI:Hid (IsShf P Q ys):=shf_all HL1.out Hnd.out Hp0.out (by rw [← Hxs.out];exact hperm) (hord.imp cmpShf_le);have hyl:=hperm.length_eq;obtain ⟨A9,c9,e9,S8⟩:=S7.frz 0 rfl;have HS8:=Lib.hid S8;have He9:=Lib.hid e9;clear Hs9 hperm hord S7 S8 e9;go_wp2_with fail
       go_ret;exact ⟨A9,c9,ys,congrArg Ending.returned He9.out,HI.out,HS8.out⟩
      ·obtain ⟨n,val⟩:=pq;have hval:=sh_at HL1.out Hnd.out (HRg.out.perm.mem_iff.1 (List.mem_append_right _ hpm));obtain ⟨ka,hka⟩:∃ ka,keyIn P n=ka:=⟨_,rfl⟩;obtain ⟨kb,hkb⟩:∃ kb,keyIn Q n=kb:=⟨_,rfl⟩;rw [hka,hkb] at hval;subst hval;have Hrg:=Lib.hid hrg;have Hll:=Lib.hid hll;have Hsn:Hid ((dq++[(n,shV n ka kb)]).filterMap (fun p=>shfOf P Q p.1)=xs++(if ka≠kb then some (⟨n,ka,kb⟩:Shf) else none).toList):=by
        show _=_;rw [shf_snoc,← Hxs.out];unfold shfOf;rw [hka,hkb]
       have hnx2:∀ ty,(Instr.next (.pointer (some ⟨Z,0,none⟩)) false ty).run Tryz.prog wr=.ok (.tuple #[.bool true,.int .i64 n,.agg #[.int .i64 n,.int .i64 ka.k,.string ka.t,.int .i64 kb.k,.string kb.t]]) w5:=hnx;have hen2:(Instr.entry (.pointer (some ⟨Z,0,none⟩))).run Tryz.prog w5=.ok (.tuple #[.int .i64 n,.agg #[.int .i64 n,.int .i64 ka.k,.string ka.t,.int .i64 kb.k,.string kb.t]]) w5:=hen;clear hnx hen S3 hpm hll hrg hka hkb;go_upto_region 24 with fail
       clear hnx2 hen2;obtain ⟨V,hV⟩:∃ V,V=w5.heap.size:=⟨_,rfl⟩;have S6:Mem w (w5.alloc (.cells (shCs ⟨n,ka,kb⟩) 77)) [.loc V (shCs ⟨n,ka,kb⟩) 77,.own rShf Bk 77 (.slice A8 xs.length c8) xs,.mapE X es clock,.iter Z X clock seen' clock]:=(S5.newAt (shCs ⟨n,ka,kb⟩) 77 V hV).front;rw [← hV];clear hV S5;generalize w5.alloc (.cells #[.int .i64 n,.int .i64 ka.k,.string ka.t,.int .i64 kb.k,.string kb.t] 77)=w6 at *;have y0:=(S6.lv 0 rfl).all;by_cases hk:ka=kb
       ·have h1:(ka.k==kb.k)=true:=by rw [hk];exact beq_self_eq_true _
        have h2:(ka.t.toList==kb.t.toList)=true:=by rw [hk];exact beq_self_eq_true _
        have Hs2:Hid (xs=(dq++[(n,shV n ka kb)]).filterMap (fun p=>shfOf P Q p.1)):=by show _=_;rw [Hsn.out,if_neg (fun h=>h hk)];simp
        clear Hsn hk;go_wp2_with fail
        go_roundw
        case rel=>exact ⟨seen',_,left',xs,A8,c8,rfl,Hrg.out,Hs2.out,S6.del 0⟩
        case measure=>rw [hsz3.out,S6.iterSize 3 rfl Hrg.out];have:=Hll.out;omega
       ·have Hs2:Hid (xs++[(⟨n,ka,kb⟩:Shf)]=(dq++[(n,shV n ka kb)]).filterMap (fun p=>shfOf P Q p.1)):=by show _=_;rw [Hsn.out,if_pos hk];rfl
        have hsB:Bk≤w6.heap.size:=by rw [Hb.out];exact S6.b.size
        have hlk:xs.length≤100000000:=by omega
        clear Hsn;by_cases h1:ka.k=kb.k
        ·have h1':(ka.k==kb.k)=true:=by simpa using h1
         have h2:(ka.t.toList==kb.t.toList)=false:=by
          cases h3:(ka.t.toList==kb.t.toList) with
          | false=>rfl
          | true=>exact absurd (idv_eq h1 h3) hk
         clear hk h1;go_wp2_with (at_builtin;go_loud (refine S6.app 1 rfl tyShf rfl _ _ rfl (⟨n,ka,kb⟩:Shf) 1 rfl rfl rfl (oneShf ⟨n,ka,kb⟩) hsB hlk (by decide) ?_);intro v' w7 S7)
         obtain ⟨A9,c9,e9⟩:=(S7.ow 1 rfl).len;subst e9;go_roundw
         case rel=>exact ⟨seen',_,left',_,A9,c9,rfl,Hrg.out,Hs2.out,S7.del 0⟩
         case measure=>rw [hsz3.out,S7.iterSize 3 rfl Hrg.out];have:=Hll.out;omega
        ·have h1':(ka.k==kb.k)=false:=by simpa using h1
         clear hk h1;go_wp2_with (at_builtin;go_loud (refine S6.app 1 rfl tyShf rfl _ _ rfl (⟨n,ka,kb⟩:Shf) 1 rfl rfl rfl (oneShf ⟨n,ka,kb⟩) hsB hlk (by decide) ?_);intro v' w7 S7)
         obtain ⟨A9,c9,e9⟩:=(S7.ow 1 rfl).len;subst e9;go_roundw
         case rel=>exact ⟨seen',_,left',_,A9,c9,rfl,Hrg.out,Hs2.out,S7.del 0⟩
         case measure=>rw [hsz3.out,S7.iterSize 3 rfl Hrg.out];have:=Hll.out;omega
end
section
open Go Go.RowKit
set_option maxHeartbeats 4000000 in
set_option maxRecDepth 100000 in
theorem growP_any (n:Nat)(hn:n≤100000)(w:World) :
  Calls Tryz.prog 175 #[.slice none 0 0,.int .i64 n] w fun e w'=>∃ v,e=.returned v∧Mem w w' [.own rPsQ w.heap.size 80 v []]:=by
 obtain ⟨i0,hi0,hz0,hz1,hz2⟩:=info_parts tyPsn.info;have hsz:i0.size=4:=hz1;have hby:i0.bytes=72:=hz2;by_cases h0:0 < n
 ·have hwr:IntKind.i64.wrap ((n:Int) - 0)=n:=IntWalk.i64_in _ (by omega);have hwr2:IntKind.i64.wrap (n:Int)=n:=IntWalk.i64_in _ (by omega);have hgt:decide ((n:Int) > 0)=true:=decide_eq_true (by omega);have hnl:decide ((n:Int) < 0)=false:=decide_eq_false (by omega);have hold:(Builtin.firstCells i0.size 0 (.slice none 0 0)).run Tryz.prog w.drew=.ok ([]:List Value).toArray w.drew:=run_firstCells_none w.drew i0.size 0 0 0;have hr:∀ ty,(Builtin.append_ #[61,3] ty #[.slice none 0 0,.int .i64 n]).run Tryz.prog w=_:=fun ty=>by
   have h:=Lib.run_append_grow_zeros (P:=Tryz.prog) w 61 3 ty 80 i0 _ .i64 .i64 tyPsn.under (by kernel_rfl) hi0 hz0 none 0 0 [] hold n h0 (by omega) (by omega) (by omega) (by rw [hby];omega) (growslice_fits (by omega) (by rw [hby];omega));exact h
  obtain ⟨G,hG⟩:∃ G,G=grownCap w (0 + n) 0 80:=⟨_,rfl⟩;have hGn:n≤G:=by have:=grownCap_ge w (0 + n) 0 80;omega
  have hGm:G≤maxLen:=by rw [hG];exact grownCap_le_maxLen w (0 + n) 0 80 (by unfold maxLen;omega)
  rw [← hG] at hr;obtain ⟨cells,hcs⟩:∃ cells,cells=(([]:List Value).toArray++Builtin.zeroCells (Value.agg #[.int .i64 0,.string ⟨#[]⟩,.slice none 0 0,.slice none 0 0]).cells n++Builtin.zeroCells (Value.agg #[.int .i64 0,.string ⟨#[]⟩,.slice none 0 0,.slice none 0 0]).cells (G - (0 + n))):=⟨_,rfl⟩;have hsc:cells.size=G * rPsQ.size:=by
   rw [hcs,Array.size_append,Array.size_append,size_zeroCells,size_zeroCells,tyPsn.zsize];show 0 + n * 4 + (G - (0 + n)) * 4=G * 4;omega
  have hr2:∀ ty,(Builtin.append_ #[61,3] ty #[.slice none 0 0,.int .i64 n]).run Tryz.prog w=.ok (.slice (some ⟨w.heap.size,0,none⟩) (0 + n) G) (w.drew.alloc (.cells cells 80)):=fun ty=>by rw [hr ty,hcs]
  have S:=(Mem.start w).newAt cells 80 w.heap.size rfl;have S2:=S.room (r:=rPsQ) 0 rfl rfl hGm hsc;have HS:=Lib.hid (S2.below (RowKit.Below.refl _ _).drew);clear hr hcs S S2 hold hG hsc;go_enter Tryz.func175,Tryz.ntmps175
  go_wp2_with (at_builtin;refine Lib.wpList_append_run _ rfl _ _ _ _ rfl _ _ rfl rfl _ _ (hr2 _) ?_)
  all_goals (go_ret;exact ⟨_,rfl,HS.out⟩)
 ·obtain rfl:n=0:=by omega
  go_enter Tryz.func175,Tryz.ntmps175
  go_wp2_with fail
  go_ret;exact ⟨_,rfl,(Mem.start w).nil rPsQ w.heap.size 80⟩
def sumP (a s:Nat):Nat→Nat
 | 0=>0
 | 1=>a
 | _=>s
def appP (l1 l2:List PsQ):Nat→List PsQ
 | 0=>[]
 | 1=>l1
 | _=>l1++l2
theorem cells_psq {N:Nat→Prop}{w:World}{a:Addr}{xs:List PsQ}(h:Sl rPsQ N w (some a) xs):∀ j u,(xs.map PsQ.cells).flatten[j]? =some u→w.cell? (a.add j)=some u:=fun j u hu=>by
 obtain ⟨k,x,r,h1,h2,rfl⟩:=flat_at (n:=4) (fun _=>rfl) xs j u hu;obtain ⟨blk,off,l,e,_,_,hr,hc⟩:=h k x h1;obtain rfl:a=⟨blk,off,none⟩:=Option.some.inj e;obtain rfl:l=PsQ.cells x:=hr;have:=hc r u h2
 rw [show rPsQ.size=4 from rfl,Nat.add_assoc] at this;rw [Addr.add_lit];exact this
theorem slq_none {N:Nat→Prop}{w:World}{xs:List PsQ}(h:Sl rPsQ N w none xs):xs=[]:=by
 cases xs with
 | nil=>rfl
 | cons x r =>
  obtain ⟨blk,off,l,e,_⟩:=h 0 x rfl;cases e
def GivesOwnP (l:List PsQ)(w:World)(e:Ending)(w':World):Prop:=∃ v,e=.returned v∧Mem w w' [.own rPsQ w.heap.size 80 v l]
set_option maxHeartbeats 4000000 in
set_option maxRecDepth 100000 in
theorem concatP_any (X:Nat)(A1 A2:Option Addr)(l1 l2:List PsQ)(c1 c2:Nat)(w:World)(hX:LV w X #[.slice A1 l1.length c1,.slice A2 l2.length c2] 61)(h1:Sl rPsQ (fun _=>False) w A1 l1)(h2:Sl rPsQ (fun _=>False) w A2 l2)(hl1:l1.length≤1000)(hl2:l2.length≤1000) :
  Calls Tryz.prog 94 #[.slice (some ⟨X,0,none⟩) 2 2] w (GivesOwnP (l1++l2) w):=by
 obtain ⟨n1,hn1⟩:∃ n1,l1.length=n1:=⟨_,rfl⟩;obtain ⟨n2,hn2⟩:∃ n2,l2.length=n2:=⟨_,rfl⟩;rw [hn1] at hX hl1;rw [hn2] at hX hl2;have HX:Hid (∀ w',Below w.heap.size w w'→LV w' X #[.slice A1 n1 c1,.slice A2 n2 c2] 61):=fun w' h=>(h.block X hX.lt).trans hX;have H1:=Lib.hid (fun w' (h:Below w.heap.size w w')=>h1.keepB h);have H2:=Lib.hid (fun w' (h:Below w.heap.size w w')=>h2.keepB h);have c0:=hX.all;clear hX h1 h2;obtain ⟨n3,hn3⟩:∃ n3:Nat,n3=n1 + n2:=⟨_,rfl⟩;have Hn1:=Lib.hid hn1;have Hn2:=Lib.hid hn2;have hn31:n3≤2000:=by omega
 have HG:=Lib.hid (growP_any n3 (by omega) w);have hw1:IntKind.i64.wrap (n1:Int)=n1:=IntWalk.i64_in _ (by omega);have hw2:IntKind.i64.wrap ((n1:Int) + n2)=n3:=by rw [hn3];exact IntWalk.i64_in _ (by omega)
 have hd1:decide ((n1:Int) < 0)=false:=decide_eq_false (by omega);have hd3:decide ((n3:Int) < 0)=false:=decide_eq_false (by omega);clear hn1 hn2 hn3;go_enter Tryz.func94,Tryz.ntmps94
 go_wp2_with fail
 go_loopw [3,11] (fun a i wr=>∃ j:Nat,j≤2∧i=.int .i64 j∧a=.int .i64 (sumP n1 n3 j)∧w=wr) (fun _ i _=>2 - (intOf i).toNat)
 case atStart=>exact ⟨0,by omega,rfl,rfl,rfl⟩
 case round =>
  obtain ⟨j,hj,rfl,rfl,rfl⟩:=hrel;rcases (by omega:j=0∨j=1∨j=2) with rfl | rfl | rfl
  ·simp only [sumP];go_wp2_with fail
   go_roundw
   case rel=>exact ⟨1,by omega,by go_num,rfl,trivial⟩
   case measure=>simp [intOf]
  ·simp only [sumP];go_wp2_with fail
   go_roundw
   case rel=>exact ⟨2,by omega,by go_num,rfl,trivial⟩
   case measure=>simp [intOf]
  ·simp only [sumP];clear c0;go_wp2_with fail
   refine (HG.out).mono ?_;rintro e w2 ⟨v,rfl,S⟩;clear HG;go_wp2_with fail
   go_loopw [6,27] (fun v i wr=>∃ j:Nat,j≤2∧i=.int .i64 j∧Mem w wr [.own rPsQ w.heap.size 80 v (appP l1 l2 j)]) (fun _ i _=>2 - (intOf i).toNat)
   case atStart=>exact ⟨0,by omega,rfl,S⟩
   case round =>
    clear S;obtain ⟨j,hj,rfl,S⟩:=hrel;have c0:=(HX.out wr S.b).all;have hsz:=S.b.size;rcases (by omega:j=0∨j=1∨j=2) with rfl | rfl | rfl
    ·have HS:=Lib.hid S;clear S;cases A1 with
     | none =>
      obtain rfl:=slq_none (H1.out wr HS.out.b);obtain rfl:n1=0:=Hn1.out.symm;rcases (HS.out.ow 0 rfl).shape2 with ⟨rfl,_⟩ | ⟨g,cap,rfl,_⟩
      ·go_wp2_with fail
       go_roundw
       case rel=>exact ⟨1,by omega,by go_num,HS.out⟩
       case measure=>simp [intOf]
      ·simp only [appP,List.length_nil];go_wp2_with fail
       go_roundw
       case rel=>exact ⟨1,by omega,by go_num,HS.out⟩
       case measure=>simp [intOf]
     | some ad =>
      have Hc:=Lib.hid (cells_psq (H1.out wr HS.out.b));go_wp2_with (at_builtin;refine HS.out.appN flatPsQ 0 rfl tyPsn rfl _ _ rfl l1 n1 c1 Hn1.out.symm rfl ad rfl Hc.out (fun y _=>onePsQ y) (fun _=>rfl) hsz (by simp only [appP,List.length_nil];rw [Hn1.out];omega) (by decide) ?_;intro v5 w5 S5)
      go_roundw
      case rel=>exact ⟨1,by omega,by go_num,S5⟩
      case measure=>simp [intOf]
    ·have HS:=Lib.hid S;clear S;cases A2 with
     | none =>
      obtain rfl:=slq_none (H2.out wr HS.out.b);obtain rfl:n2=0:=Hn2.out.symm;have HS1:Hid (∀ {v:Value},Mem w wr [.own rPsQ w.heap.size 80 v (appP l1 [] 1)]→Mem w wr [.own rPsQ w.heap.size 80 v (appP l1 [] 2)]):=fun {v} h=>by rw [show appP l1 [] 2=appP l1 [] 1 by simp [appP]];exact h
      rcases (HS.out.ow 0 rfl).shape2 with ⟨hv,_⟩ | ⟨g,cap,hv,hc⟩
      ·subst hv;go_wp2_with fail
       go_roundw
       case rel=>exact ⟨2,by omega,by go_num,HS1.out HS.out⟩
       case measure=>simp [intOf]
      ·rw [show (appP l1 [] 1).length=n1 from Hn1.out] at hv hc;subst hv;go_wp2_with fail
       go_roundw
       case rel=>exact ⟨2,by omega,by go_num,HS1.out HS.out⟩
       case measure=>simp [intOf]
     | some ad =>
      have Hc:=Lib.hid (cells_psq (H2.out wr HS.out.b));go_wp2_with (at_builtin;refine HS.out.appN flatPsQ 0 rfl tyPsn rfl _ _ rfl l2 n2 c2 Hn2.out.symm rfl ad rfl Hc.out (fun y _=>onePsQ y) (fun _=>rfl) hsz (by simp only [appP];rw [Hn1.out,Hn2.out];omega) (by decide) ?_;intro v5 w5 S5)
      go_roundw
      case rel=>exact ⟨2,by omega,by go_num,S5⟩
      case measure=>simp [intOf]
    ·go_wp2_with fail
     go_ret;exact ⟨_,rfl,S⟩
theorem psq_of {N:Nat→Prop}{w:World}{A:Option Addr}{P:List Psn}(h:Sl rPsn N w A P):∃ qs:List PsQ,qs.map PsQ.p=P∧Sl rPsQ N w A qs∧PdOk N w qs:=by
 have hx:∀ i:Fin P.length,∃ q:PsQ,q.p=P[i]∧∃ blk off,A=some ⟨blk,off,none⟩∧blk < w.heap.size∧¬ N blk∧(∀ j u,q.cells[j]? =some u→w.cell? ⟨blk,off + i.1 * 4 + j,none⟩=some u)∧Sl rInt N w q.A q.p.tch∧Sl rId N w q.B q.p.ids:=fun i=>by
  obtain ⟨blk,off,l,e1,h1,h2,h3,h4⟩:=h i.1 P[i] (List.getElem?_eq_getElem i.2);obtain ⟨At,a,Ai,b,rfl,hi,hf⟩:=rPsn_of h3;exact ⟨⟨P[i],At,a,Ai,b⟩,rfl,blk,off,e1,h1,h2,h4,hi,hf⟩
 refine ⟨List.ofFn (fun i=>(hx i).choose),?_,fun i x hi=>?_,fun q hq=>?_⟩
 ·apply List.ext_getElem
  ·simp
  ·intro i h1 h2;rw [List.getElem_map,List.getElem_ofFn];exact (hx ⟨i,h2⟩).choose_spec.1
 ·have hl:i < P.length:=by have:=lt_of_get hi;simpa using this
  rw [List.getElem?_eq_getElem (by simpa using hl),List.getElem_ofFn] at hi;obtain ⟨_,blk,off,e1,h1,h2,h4,_⟩:=(hx ⟨i,hl⟩).choose_spec;rw [Option.some.inj hi] at h4;exact ⟨blk,off,_,e1,h1,h2,rfl,h4⟩
 ·obtain ⟨i,rfl⟩:=List.mem_ofFn.1 hq;obtain ⟨_,_,_,_,_,_,_,h5⟩:=(hx i).choose_spec;exact h5
theorem concatPsn_any (X:Nat)(A1 A2:Option Addr)(P Q:List Psn)(c1 c2:Nat)(w:World)(hX:LV w X #[.slice A1 P.length c1,.slice A2 Q.length c2] 61)(h1:Sl rPsn (fun _=>False) w A1 P)(h2:Sl rPsn (fun _=>False) w A2 Q)(hl1:P.length≤1000)(hl2:Q.length≤1000) :
  Calls Tryz.prog 94 #[.slice (some ⟨X,0,none⟩) 2 2] w fun e w'=>∃ A c,e=.returned (.slice A (P++Q).length c)∧Sl rPsn (fun _=>False) w' A (P++Q)∧Below w.heap.size w w':=by
 obtain ⟨ps,rfl,hp1,hp2⟩:=psq_of h1;obtain ⟨qs,rfl,hq1,hq2⟩:=psq_of h2;rw [List.length_map] at hl1 hl2;rw [List.length_map,List.length_map] at hX;refine (concatP_any X A1 A2 ps qs c1 c2 w hX hp1 hq1 hl1 hl2).mono ?_;rintro e w' ⟨v,rfl,S⟩;obtain ⟨A,c,rfl,S2⟩:=S.frz 0 rfl;have hb:=S2.b;have hpd:PdOk (fun _=>False) w' (ps++qs):=fun q hq=>by
  rcases List.mem_append.1 hq with hq | hq
  ·exact ⟨(hp2 q hq).1.keepB hb,(hp2 q hq).2.keepB hb⟩
  ·exact ⟨(hq2 q hq).1.keepB hb,(hq2 q hq).2.keepB hb⟩
 refine ⟨A,c,by rw [← List.map_append,List.length_map],?_,hb⟩;rw [← List.map_append];exact slPsn ((S2.slc 0 rfl).mono (fun _ _ h=>h.elim)) hpd
end
section
open Go Go.RowKit Go.Sort
theorem compact_sorted (zs:List Int)(hs:zs.Pairwise (·≤·)):(Lib.compact zs).Pairwise (· < ·)∧∀ x,x∈Lib.compact zs ↔ x∈zs:=by
 have key:∀ m,m≤zs.length→(Lib.compactUpTo zs.toArray m).Pairwise (· < ·)∧∀ x,x∈Lib.compactUpTo zs.toArray m ↔ ∃ j,j < m∧zs[j]? =some x:=fun m=>by
  induction m with
  | zero=>intro _;exact ⟨by simp [Lib.compactUpTo],fun x=>by simp [Lib.compactUpTo]⟩
  | succ m ih =>
   intro hm;obtain ⟨h1,h2⟩:=ih (by omega);have hd:zs.toArray[m]! =zs[m]:=by rw [getElem!_pos zs.toArray m (by simp;omega)];rfl
   have hzm:zs[m]? =some zs[m]:=List.getElem?_eq_getElem hm;rw [Lib.compactUpTo_succ,hd];by_cases hk:Lib.keeps zs.toArray m=true
   ·rw [if_pos hk];refine ⟨List.pairwise_append.2 ⟨h1,List.pairwise_singleton _ _,fun a ha b hb=>?_⟩,fun x=>?_⟩
    ·rw [List.mem_singleton.1 hb];obtain ⟨j,hj,hja⟩:=(h2 a).1 ha;obtain ⟨hjl,rfl⟩:=List.getElem?_eq_some_iff.1 hja;have hm1:zs.toArray[m - 1]! =zs[m - 1]:=by rw [getElem!_pos zs.toArray (m - 1) (by simp;omega)];rfl
     have hne:zs[m]≠zs[m - 1]:=by
      unfold Lib.keeps at hk;rw [hd,hm1] at hk;have:=of_decide_eq_true hk
      rcases this with h | h
      ·omega
      ·exact h
     have hle:zs[m - 1]≤zs[m]:=List.pairwise_iff_getElem.1 hs (m - 1) m (by omega) hm (by omega);have hle2:zs[j]≤zs[m - 1]:=by
      rcases Nat.lt_or_ge j (m - 1) with h | h
      ·exact List.pairwise_iff_getElem.1 hs j (m - 1) hjl (by omega) h
      ·have:j=m - 1:=by omega
       subst this;exact Int.le_refl _
     omega
    ·rw [List.mem_append,h2,List.mem_singleton];constructor
     ·rintro (⟨j,hj,e⟩ | rfl)
      ·exact ⟨j,by omega,e⟩
      ·exact ⟨m,by omega,hzm⟩
     ·rintro ⟨j,hj,e⟩;rcases Nat.lt_or_ge j m with h | h
      ·exact .inl ⟨j,h,e⟩
      ·obtain rfl:j=m:=by omega
       rw [hzm] at e;exact .inr (Option.some.inj e).symm
   ·have hk':Lib.keeps zs.toArray m=false:=by simpa using hk
    rw [hk'];simp only [Bool.false_eq_true,if_false,List.append_nil];refine ⟨h1,fun x=>?_⟩;rw [h2];have hm0:m≠0∧zs[m]=zs[m - 1]'(by omega):=by
     have hm1:zs.toArray[m - 1]! =zs[m - 1]'(by omega):=by rw [getElem!_pos zs.toArray (m - 1) (by simp;omega)];rfl
     unfold Lib.keeps at hk';rw [hd,hm1] at hk';have:=of_decide_eq_false hk'
     exact ⟨fun h=>this (.inl h),Decidable.byContradiction fun h=>this (.inr h)⟩
    constructor
    ·rintro ⟨j,hj,e⟩;exact ⟨j,by omega,e⟩
    ·rintro ⟨j,hj,e⟩;rcases Nat.lt_or_ge j m with h | h
     ·exact ⟨j,h,e⟩
     ·obtain rfl:j=m:=by omega
      rw [hzm] at e;refine ⟨j - 1,by omega,?_⟩;rw [List.getElem?_eq_getElem (by omega),← hm0.2];exact e
 obtain ⟨h1,h2⟩:=key zs.length (Nat.le_refl _);refine ⟨h1,fun x=>(h2 x).trans ?_⟩;rw [List.mem_iff_getElem?];constructor
 ·rintro ⟨j,_,e⟩;exact ⟨j,e⟩
 ·rintro ⟨j,e⟩;exact ⟨j,lt_of_get e,e⟩
theorem compact_len (zs:List Int):(Lib.compact zs).length≤zs.length:=by
 unfold Lib.compact Lib.compactUpTo;rw [List.length_map];exact Nat.le_trans (List.length_filter_le ..) (by simp)
theorem srtI_sorted (zs:List Int):(srtI zs).Pairwise (·≤·):=by
 have:=List.pairwise_mergeSort (le:=fun x y:Int=>decide (x≤y)) (fun a b c h1 h2=>by simp at *;omega) (fun a b=>by simp;omega) zs
 exact this.imp (fun h=>by simpa using h)
set_option maxHeartbeats 4000000 in
set_option maxRecDepth 100000 in
theorem insNilI_any (w:World):Calls Tryz.prog 240 #[.slice none 0 0,.int .i64 0,.int .i64 0] w fun e w'=>e=.returned (.tuple #[])∧w=w':=by
 go_enter Tryz.func240,Tryz.ntmps240
 go_wp2_with fail
 go_loopw [6] (fun i wr=>i=.int .i64 1∧w=wr) (fun _ _=>0)
 case atStart=>exact ⟨rfl,rfl⟩
 case round =>
  obtain ⟨rfl,rfl⟩:=hrel;go_wp2_with fail
  go_end0;exact ⟨rfl,rfl⟩
set_option maxHeartbeats 4000000 in
set_option maxRecDepth 100000 in
theorem pdqNil_any (n:Int)(w:World):Calls Tryz.prog 176 #[.slice none 0 0,.int .i64 0,.int .i64 0,.int .i64 n] w fun e w'=>e=.returned (.tuple #[])∧w=w':=by
 have H:=Lib.hid (insNilI_any w);go_enter Tryz.func176,Tryz.ntmps176
 go_wp2_with fail
 go_loopw [1,2] (fun a b wr=>a=.int .i64 0∧b=.int .i64 0∧w=wr) (fun _ _ _=>0)
 case atStart=>exact ⟨rfl,rfl,rfl⟩
 case round =>
  obtain ⟨rfl,rfl,rfl⟩:=hrel;go_wp2_with fail
  refine (H.out).mono ?_;rintro e w3 ⟨rfl,rfl⟩;go_wp2_with fail
  exact bodyPost_ret (results_none rfl _ _ _) rfl ⟨rfl,rfl⟩
set_option maxHeartbeats 4000000 in
set_option maxRecDepth 100000 in
theorem sortNilI_any (w:World):Calls Tryz.prog 95 #[.slice none 0 0] w fun e w'=>e=.returned (.tuple #[])∧w=w':=by
 have HL:=Lib.hid (Tryz.bits_Len 0 w (by decide) (by decide));have HP:=Lib.hid (fun n=>pdqNil_any n w);go_enter Tryz.func95,Tryz.ntmps95
 go_wp2_with fail
 refine (HL.out).mono ?_;rintro e w3 ⟨rfl,rfl⟩;go_wp2_with fail
 refine (HP.out _).mono ?_;rintro e w4 ⟨rfl,rfl⟩;go_wp2_with fail
 go_end0;exact ⟨rfl,rfl⟩
set_option maxRecDepth 100000 in
theorem Mem.compI {w0 w:World}{cs:List Chunk}(S:Mem w0 w cs)(i:Nat){B E g n cap:Nat}{xs:List Int}(hi:cs[i]? =some (.own rInt B E (.slice (some ⟨g,0,none⟩) n cap) xs))(hn:n=xs.length)(hl:xs.length≤1000000)(hc:n≤cap) :
  Calls Tryz.prog 96 #[.slice (some ⟨g,0,none⟩) n cap] w fun e w'=>e=.returned (.slice (some ⟨g,0,none⟩) (Lib.compact xs).length cap)∧Mem w0 w' (cs.set i (.own rInt B E (.slice (some ⟨g,0,none⟩) (Lib.compact xs).length cap) (Lib.compact xs))):=by
 subst hn;have hH:=(S.ow i hi).holdsI rfl;have hcl:=compact_len xs;refine (Tryz.slices_Compact_int g 0 cap xs w hH (by omega) hc).mono ?_;rintro e w' ⟨rfl,q,rfl⟩;refine ⟨rfl,?_⟩;have hlen:(Lib.compact xs++List.replicate (xs.length - (Lib.compact xs).length) 0).length=xs.length:=by simp;omega
 have e1:putRow (Value.int .i64) (Sort.ahead w q) g 0 (Lib.compact xs++List.replicate (xs.length - (Lib.compact xs).length) 0).toArray=sortWorldK (fun n:Int=>[Value.int .i64 n]) 1 w g 0 q (Lib.compact xs++List.replicate (xs.length - (Lib.compact xs).length) 0).toArray #[]:=by
  rw [← sortWorld_int,grow_empty]
 rw [e1];have S2:=S.sortedK flatInt (m:=q) (os:=#[]) (by decide) (fun _=>rfl) i hi hlen;have S3:=S2.cut i (by rw [List.getElem?_set_self (lt_of_get hi)]) (Lib.compact xs).length (by rw [hlen];exact hcl);rw [List.set_set,List.take_left'] at S3
 ·exact S3
 ·rfl
theorem set_sameI {α:Type}{l:List α}{i:Nat}{x:α}(h:l[i]? =some x):l.set i x=l:=by
 obtain ⟨hi,rfl⟩:=List.getElem?_eq_some_iff.1 h;exact List.set_getElem_self hi
def GivesSrtI (w0:World)(cs:List Chunk)(i B E:Nat)(v:Value)(xs:List Int)(e:Ending)(w':World):Prop:=e=.returned (.tuple #[])∧Mem w0 w' (cs.set i (.own rInt B E v (srtI xs)))
def GivesCmpI (w0:World)(cs:List Chunk)(i B E:Nat)(xs:List Int)(e:Ending)(w':World):Prop:=∃ v,e=.returned v∧Mem w0 w' (cs.set i (.own rInt B E v (Lib.compact xs)))
theorem sortOwnI {w0 w:World}{cs:List Chunk}(S:Mem w0 w cs)(i:Nat){B E:Nat}{v:Value}{xs:List Int}(hi:cs[i]? =some (.own rInt B E v xs))(hl:xs.length≤1000000) :
  Calls Tryz.prog 95 #[v] w (GivesSrtI w0 cs i B E v xs):=by
 rcases (S.ow i hi).shape2 with ⟨rfl,rfl⟩ | ⟨g,cap,rfl,_⟩
 ·refine (sortNilI_any w).mono ?_;rintro e w' ⟨rfl,rfl⟩;refine ⟨rfl,?_⟩;rw [show srtI []=[] by simp [srtI],set_sameI hi];exact S
 ·refine (S.sortI i hi rfl hl).mono ?_;rintro e w' ⟨rfl,S'⟩;exact ⟨rfl,S'⟩
theorem compOwnI {w0 w:World}{cs:List Chunk}(S:Mem w0 w cs)(i:Nat){B E:Nat}{v:Value}{xs:List Int}(hi:cs[i]? =some (.own rInt B E v xs))(hl:xs.length≤1000000) :
  Calls Tryz.prog 96 #[v] w (GivesCmpI w0 cs i B E xs):=by
 rcases (S.ow i hi).shape2 with ⟨rfl,rfl⟩ | ⟨g,cap,rfl,hc⟩
 ·refine (Tryz.slices_Compact_int_empty none 0 w).mono ?_;rintro e w' ⟨rfl,rfl⟩;refine ⟨_,rfl,?_⟩;rw [show Lib.compact []=[] from rfl,set_sameI hi];exact S
 ·refine (S.compI i hi rfl hl hc).mono ?_;rintro e w' ⟨rfl,S'⟩;exact ⟨_,rfl,S'⟩
theorem srtU_is (xs:List Int):(Lib.compact (srtI xs)).Pairwise (· < ·)∧∀ x,x∈Lib.compact (srtI xs) ↔ x∈xs:=by
 obtain ⟨h1,h2⟩:=compact_sorted _ (srtI_sorted xs);exact ⟨h1,fun x=>by rw [h2,srtI,List.mem_mergeSort]⟩
end
section
open Go Go.RowKit
def difF (P Q:List Psn):Int:=if psnsF P≠0 then psnsF P else psnsF Q
def GivesShfE (P Q:List Psn)(w:World)(e:Ending)(w':World):Prop :=
 ∃ (A:Option Addr) (c:Nat) (l:List Shf),e=.returned (.tuple #[.slice A l.length c,.int .i64 (difF P Q)])∧(difF P Q≠0→l=[])∧(difF P Q=0→IsShf P Q l)∧Mem w w' [.sl rShf A l]
structure PsnSm (P:List Psn):Prop where
 len:P.length≤1000000
 tch:∀ p∈P,p.tch.length≤1000000
 key:∀ p∈P,p.key.t.size≤1000000
 all:(P.flatMap Psn.tch).length≤400000
theorem keyIn_at {P:List Psn}{j:Nat}{p:Psn}{n:Int}(hp:P[j]? =some p):keyIn (P.drop j) n=if n∈p.tch then p.key else keyIn (P.drop (j + 1)) n:=by
 rw [drop_at3 hp];unfold keyIn;rw [List.find?_cons];by_cases h:n∈p.tch
 ·rw [decide_eq_true h,if_pos h]
 ·rw [decide_eq_false h,if_neg h]
theorem loadIdR {w:World}{X:Nat}{a b:Value}(h:LV w X #[a,b] 46):(loadVar 46 ⟨X,0,none⟩).run Tryz.prog w=.ok (.agg #[a,b]) w:=by
 have c0:=h.all;go_simp
set_option maxHeartbeats 4000000 in
set_option maxRecDepth 100000 in
theorem keyIn_any (N:Nat→Prop)(P:List Psn)(A:Option Addr)(c:Nat)(n:Int)(w:World)(hS:Sl rPsn N w A P)(hP:PsnSm P) :
  Calls Tryz.prog 92 #[.slice A P.length c,.int .i64 n] w fun e w'=>e=.returned (.agg #[.int .i64 (keyIn P n).k,.string (keyIn P n).t])∧Below w.heap.size w w':=by
 have HS:=Lib.hid hS;have hl:=hP.len;have Hs:=Lib.hid hP.tch;obtain ⟨ky,hky⟩:∃ ky,keyIn P n=ky:=⟨_,rfl⟩;rw [hky];have Hky:=Lib.hid hky;clear hS hP hky;obtain ⟨X,hX⟩:∃ X,X=w.heap.size:=⟨_,rfl⟩;have S:Mem w (w.alloc (.cells #[.int .i64 0,.string ⟨#[]⟩] 46)) [.loc X #[.int .i64 0,.string ⟨#[]⟩] 46]:=(Mem.start w).newAt #[.int .i64 0,.string ⟨#[]⟩] 46 X hX;go_enter Tryz.func92,Tryz.ntmps92
 go_upto_region 1 with fail
 rw [← hX];clear hX;generalize w.alloc (.cells #[.int .i64 0,.string ⟨#[]⟩] 46)=w1 at *;go_wp2_with fail
 go_loopw [9] (fun i wr=>∃ j:Nat,j≤P.length∧i=.int .i64 j∧Hid (keyIn (P.drop j) n=ky)∧Mem w wr [.loc X #[.int .i64 0,.string ⟨#[]⟩] 46]) (fun i _=>P.length - (intOf i).toNat)
 case atStart=>exact ⟨0,Nat.zero_le _,rfl,Hky.out,S⟩
 case round =>
  clear S;obtain ⟨j,hj,rfl,Hf,S⟩:=hrel;by_cases hlt:j < P.length
  ·obtain ⟨p,hp⟩:∃ p,P[j]? =some p:=⟨_,List.getElem?_eq_getElem hlt⟩;obtain ⟨b1,o1,At,at',Ai,ai,rfl,hb1,c0,c1,c2,c3,s1,s2⟩:=HS.out.psn j p hp;have hcl:=fun (q:Addr) (hq:q.block < w.heap.size)=>S.b.cell hq;rw [← hcl _ hb1] at c0 c1 c2 c3;clear hcl;have hpl2:=Hs.out p (List.mem_of_getElem? hp);have Hsl:=Lib.hid (fun w' (h:Below w.heap.size w w')=>s1.keepB h);have Hk:=Lib.hid (keyIn_at (n:=n) hp);clear hp s1 s2;obtain ⟨U,hU⟩:∃ U,U=wr.heap.size:=⟨_,rfl⟩;have S2:Mem w (wr.alloc (.cells (psCs p At at' Ai ai) 80)) [.loc X #[.int .i64 0,.string ⟨#[]⟩] 46,.loc U (psCs p At at' Ai ai) 80]:=S.newAt (psCs p At at' Ai ai) 80 U hU;go_upto_region 4 with fail
   rw [← hU];clear hU S c0 c1 c2 c3;generalize wr.alloc (.cells (psCs p At at' Ai ai) 80)=w2 at *;have l1:=(S2.lv 1 rfl).all;have Hct:=Lib.hid (containsInt_any N At p.tch at' p.tch.length n w2 (Hsl.out _ S2.b) (Nat.le_refl _) hpl2);rw [List.take_length] at Hct;by_cases hm:n∈p.tch
   ·have hc:p.tch.contains n=true:=by simpa using hm
    rw [hc] at Hct;have Hpk:Hid (p.key=ky):=by show _=_;rw [← Hf.out,Hk.out,if_pos hm]
    have l0:=(S2.lv 0 rfl).all;have S9:=(S2.set 0 0 (.int .i64 p.key.k) rfl).set 0 1 (.string p.key.t) rfl;clear hc hm Hk Hf;go_wp2_with fail
    refine (Hct.out).mono ?_;rintro e _ ⟨rfl,rfl⟩;go_wp2_with fail
    refine bodyPost_ret (results_cell1 rfl rfl (loadIdR (S9.lv 0 rfl))) rfl ⟨?_,S9.b⟩;rw [show p.key=ky from Hpk.out]
   ·have hc:p.tch.contains n=false:=by simpa using hm
    rw [hc] at Hct;have Hn:Hid (keyIn (P.drop (j + 1)) n=ky):=by show _=_;rw [← Hf.out,Hk.out,if_neg hm]
    clear hc hm Hk Hf;go_wp2_with fail
    refine (Hct.out).mono ?_;rintro e _ ⟨rfl,rfl⟩;go_wp2_with fail
    go_roundw
    case rel=>exact ⟨j + 1,by omega,by go_num,Hn.out,S2.del 1⟩
    case measure=>simp [intOf];omega
  ·obtain rfl:j=P.length:=by omega
   have Hz:Hid ((⟨0,⟨#[]⟩⟩:IdV)=ky):=by show _=_;rw [← Hf.out,List.drop_length];rfl
   have l0:=(S.lv 0 rfl).all;have S9:=(S.set 0 0 (.int .i64 0) rfl).set 0 1 (.string ⟨#[]⟩) rfl;clear Hf;go_wp2_with fail
   refine bodyPost_ret (results_cell1 rfl rfl (loadIdR (S9.lv 0 rfl))) rfl ⟨?_,S9.b⟩;rw [← show (⟨0,⟨#[]⟩⟩:IdV)=ky from Hz.out]
end
end Go.Proofs.YtmkkppknaikjjaaGreatDoor
