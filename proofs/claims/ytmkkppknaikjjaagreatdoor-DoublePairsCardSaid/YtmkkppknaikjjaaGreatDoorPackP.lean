/- Several texts in one: PartLaw, MapG, KeyId, PsnLaw, HavMem, FindR, BsC, Joins, MapEnt, HavAdd. -/
import Derived.Test.YtmkkppknaikjjaaGreatDoorPackK
/- The plain law of parts: what hangs together, told by the first place of each part; roots that lead to it, and labels that fall until they stand. -/
set_option maxRecDepth 100000
set_option maxHeartbeats 4000000
open Go.Lib renaming hid→Z9
open List renaming getElem?_eq_getElem→Z8, mem_of_getElem?→Z7, length_append→Z4, getElem?_set_self→ZY, length_map→ZW, length_cons→ZV, length_set→ZU, getElem?_map→ZT, length_take→ZR, map_append→ZP, append_assoc→ZM, append_nil→ZH, getElem?_eq_none→ZG, getElem?_append_right→ZF, getElem?_set→Zv, ext_getElem?→Zu, map_cons→Zt, mem_cons_of_mem→Zq, take_length→Zp, getElem_of_mem→Zn, map_set→Zg, length→Zf, mem_map_of_mem→Zd, mem_append_left→Za, mem_cons_self→Y2, set_append_right→YZ, range→YW, mem_cons→YU, pairwise_singleton→YS, mem_singleton→YB
open Nat renaming le_refl→Z5, zero_le→ZN, min_eq_left→Zl, zero_add→Zh
open Go.RowKit.Below renaming refl→ZX
open Option renaming map_some→Zx
open Prod renaming fst→Zw
open Bool renaming or_eq_true→Ze, eq_iff_iff→Y7, false_eq_true→YP
open Array renaming length_toList→Y8, toList_push→YT, getElem?_toList→YQ
namespace Go.Proofs.YtmkkppknaikjjaaGreatDoor
section
inductive lZ (n:Nat) (R:Nat→Nat→Prop):Nat→Nat→Prop
 | refl (i:Nat):lZ n R i i
 | step {i j k:Nat}:lZ n R i j→j < n→k < n→R j k→lZ n R i k
theorem lZ.trans {n:Nat}{R:Nat→Nat→Prop}{i j k:Nat}(h:lZ n R i j)(g:lZ n R j k):lZ n R i k:=by
 induction g with
 | refl=>exact h
 | step _ h1 h2 h3 ih=>exact .step ih h1 h2 h3
theorem lZ.one {n:Nat}{R:Nat→Nat→Prop}{i j:Nat}(hi:i < n)(hj:j < n)(h:R i j):lZ n R i j:=.step (.refl i) hi hj h
theorem lZ.symm {n:Nat}{R:Nat→Nat→Prop}(hs:∀ a b,R a b→R b a){i j:Nat}(h:lZ n R i j):lZ n R j i:=by
 induction h with
 | refl=>exact .refl _
 | step _ h1 h2 h3 ih=>exact (lZ.one h2 h1 (hs _ _ h3)).trans ih
structure iO (n:Nat) (R:Nat→Nat→Prop) (c:Nat→Nat):Prop where
 le:∀ i,i < n→c i≤i
 edge:∀ i j,i < n→j < n→R i j→c i=c j
 conn:∀ i,i < n→lZ n R i (c i)
theorem iO.const {n:Nat}{R:Nat→Nat→Prop}{c:Nat→Nat}(h:iO n R c){i j:Nat}(g:lZ n R i j):c i=c j:=by
 induction g with
 | refl=>rfl
 | step _ h1 h2 h3 ih=>exact ih.trans (h.edge _ _ h1 h2 h3)
theorem iO.low {n:Nat}{R:Nat→Nat→Prop}{c d:Nat→Nat}(h:iO n R c)(g:iO n R d){i:Nat}(hi:i < n):c i≤d i:=by
 have h1:=h.const (g.conn i hi);have h2:=h.le (d i) (Nat.lt_of_le_of_lt (g.le i hi) hi);omega
theorem iO.uniq {n:Nat}{R:Nat→Nat→Prop}{c d:Nat→Nat}(h:iO n R c)(g:iO n R d){i:Nat}(hi:i < n):c i=d i:=Nat.le_antisymm (h.low g hi) (g.low h hi)
theorem iO.fix {n:Nat}{R:Nat→Nat→Prop}{c:Nat→Nat}(h:iO n R c){i:Nat}(hi:i < n):c (c i)=c i:=(h.const (h.conn i hi)).symm
structure yV (n:Nat) (R:Nat→Nat→Prop) (c:Nat→Nat):Prop where
 le:∀ i,i < n→c i≤i
 fix:∀ i,i < n→c (c i)=c i
 conn:∀ i,i < n→lZ n R i (c i)
theorem yV.start (n:Nat)(R:Nat→Nat→Prop):yV n R id:=⟨fun _ _=>Z5 _,fun _ _=>rfl,fun i _=>.refl i⟩
theorem yV.part {n:Nat}{R:Nat→Nat→Prop}{c:Nat→Nat}(h:yV n R c)(he:∀ i j,i < n→j < n→R i j→c i=c j):iO n R c:=⟨h.le,he,h.conn⟩
def mg (a b:Nat)(c:Nat→Nat)(i:Nat):Nat:=if c i=max a b then min a b else c i
theorem Uc {a b:Nat}{c:Nat→Nat}{i j:Nat}(h:c i=c j):mg a b c i=mg a b c j:=by unfold mg;rw [h]
theorem aiz {c:Nat→Nat}{i j:Nat}:mg (c i) (c j) c i=mg (c i) (c j) c j:=by
 unfold mg;rcases Nat.le_total (c i) (c j) with h | h
 ·rw [Nat.max_eq_right h,Zl h,if_pos (rfl:c j=c j)];by_cases e:c i=c j
  ·rw [if_pos e]
  ·rw [if_neg e]
 ·rw [Nat.max_eq_left h,Nat.min_eq_right h,if_pos (rfl:c i=c i)];by_cases e:c j=c i
  ·rw [if_pos e]
  ·rw [if_neg e]
theorem yV.join {n:Nat}{R:Nat→Nat→Prop}{c:Nat→Nat}(h:yV n R c)(hs:∀ a b,R a b→R b a){i j:Nat}(hi:i < n)(hj:j < n)(hij:R i j):yV n R (mg (c i) (c j) c):=by
 have li:=h.le i hi;have lj:=h.le j hj;have fi:=h.fix i hi;have fj:=h.fix j hj;have ci:=h.conn i hi;have cj:=h.conn j hj;have cij:lZ n R (c i) (c j):=((ci.symm hs).trans (.one hi hj hij)).trans cj;refine ⟨fun k hk=>?_,fun k hk=>?_,fun k hk=>?_⟩
 ·have:=h.le k hk
  unfold mg;split <;> omega
 ·have hf:=h.fix k hk;unfold mg;by_cases e:c k=max (c i) (c j)
  ·rw [if_pos e];rcases Nat.le_total (c i) (c j) with h1 | h1
   ·rw [Zl h1,Nat.max_eq_right h1,fi];split <;> rfl
   ·rw [Nat.min_eq_right h1,Nat.max_eq_left h1,fj];split <;> rfl
  ·rw [if_neg e,hf,if_neg e]
 ·have hc:=h.conn k hk;unfold mg;by_cases e:c k=max (c i) (c j)
  ·rw [if_pos e];rcases Nat.le_total (c i) (c j) with h1 | h1
   ·rw [Zl h1];rw [Nat.max_eq_right h1] at e;rw [e] at hc;exact hc.trans (cij.symm hs)
   ·rw [Nat.min_eq_right h1];rw [Nat.max_eq_left h1] at e;rw [e] at hc;exact hc.trans cij
  ·rw [if_neg e];exact hc
structure iP (n:Nat) (p:List Nat) (c:Nat→Nat):Prop where
 len:p.length=n
 at':∀ (i q:Nat),p[i]? =some q→q≤i∧c q=c i∧(q=i→c i=i)
theorem iP.start (n:Nat):iP n (YW n) id:=⟨by simp,fun i q h=>by
 rw [List.getElem?_eq_some_iff] at h;obtain ⟨h1,h2⟩:=h;simp at h2;subst h2;exact ⟨Z5 _,rfl,fun _=>rfl⟩⟩
theorem iP.aiA {n:Nat}{p:List Nat}{c:Nat→Nat}(h:iP n p c){i q r:Nat}(hq:p[i]? =some q)(hr:p[q]? =some r):iP n (p.set i r) c:=by
 obtain ⟨a1,a2,a3⟩:=h.at' i q hq;obtain ⟨b1,b2,b3⟩:=h.at' q r hr;refine ⟨by rw [ZU];exact h.len,fun k s hk=>?_⟩;rw [Zv] at hk;by_cases e:i=k
 ·subst e;rw [if_pos rfl] at hk;split at hk
  ·obtain rfl:r=s:=by simpa using hk
   exact ⟨by omega,by rw [b2,a2],fun e=>a3 (by omega)⟩
  ·cases hk
 ·rw [if_neg e] at hk;exact h.at' k s hk
theorem iP.root {n:Nat}{p:List Nat}{c:Nat→Nat}(h:iP n p c){i:Nat}(hq:p[i]? =some i):c i=i:=(h.at' i i hq).2.2 rfl
theorem iP.join {n:Nat}{p:List Nat}{c:Nat→Nat}(h:iP n p c){i j:Nat}(fi:c (c i)=c i)(fj:c (c j)=c j):iP n (p.set (max (c i) (c j)) (min (c i) (c j))) (mg (c i) (c j) c):=by
 refine ⟨by rw [ZU];exact h.len,fun k s hk=>?_⟩;rw [Zv] at hk;by_cases e:max (c i) (c j)=k
 ·subst e;rw [if_pos rfl] at hk;split at hk
  ·obtain rfl:min (c i) (c j)=s:=by simpa using hk
   unfold mg;rcases Nat.le_total (c i) (c j) with h1 | h1
   ·rw [Nat.max_eq_right h1,Zl h1,fi,fj,if_pos rfl];refine ⟨h1,?_,fun e=>e⟩;split <;> rfl
   ·rw [Nat.max_eq_left h1,Nat.min_eq_right h1,fi,fj,if_pos rfl];refine ⟨h1,?_,fun e=>e⟩;split <;> rfl
  ·cases hk
 ·rw [if_neg e] at hk;obtain ⟨a1,a2,a3⟩:=h.at' k s hk;refine ⟨a1,Uc a2,fun e2=>?_⟩;unfold mg;rw [a3 e2,if_neg (fun e3=>e e3.symm)]
structure Stand (n:Nat) (R:Nat→Nat→Prop) (p:List Nat):Prop where
 len:p.length=n
 le:∀ (i q:Nat),p[i]? =some q→q≤i
 conn:∀ (i q:Nat),p[i]? =some q→lZ n R i q
theorem Stand.start (n:Nat)(R:Nat→Nat→Prop):Stand n R (YW n):=⟨by simp,fun i q h=>by
 rw [List.getElem?_eq_some_iff] at h;obtain ⟨h1,h2⟩:=h;simp at h2;omega,fun i q h=>by
 rw [List.getElem?_eq_some_iff] at h;obtain ⟨h1,h2⟩:=h;simp at h2;subst h2;exact .refl _⟩
theorem Stand.set {n:Nat}{R:Nat→Nat→Prop}{p:List Nat}(h:Stand n R p){i q:Nat}(hle:q≤i)(hc:lZ n R i q):Stand n R (p.set i q):=by
 refine ⟨by rw [ZU];exact h.len,fun k s hk=>?_,fun k s hk=>?_⟩
 ·rw [Zv] at hk;by_cases e:i=k
  ·subst e;rw [if_pos rfl] at hk;split at hk
   ·obtain rfl:q=s:=by simpa using hk
    exact hle
   ·cases hk
  ·rw [if_neg e] at hk;exact h.le k s hk
 ·rw [Zv] at hk;by_cases e:i=k
  ·subst e;rw [if_pos rfl] at hk;split at hk
   ·obtain rfl:q=s:=by simpa using hk
    exact hc
   ·cases hk
  ·rw [if_neg e] at hk;exact h.conn k s hk
def dX (p:List Nat)(i:Nat):Nat:=p.getD i 0
theorem Stand.part {n:Nat}{R:Nat→Nat→Prop}{p:List Nat}(h:Stand n R p)(he:∀ i j,i < n→j < n→R i j→dX p i=dX p j):iO n R (dX p):=by
 have hg:∀ i,i < n→p[i]? =some (dX p i):=fun i hi=>by
  unfold dX;rw [List.getD_eq_getElem?_getD,Z8 (by rw [h.len];exact hi)];rfl
 exact ⟨fun i hi=>h.le i _ (hg i hi),he,fun i hi=>h.conn i _ (hg i hi)⟩
def Bl (n:Nat)(c:Nat→Nat):List Nat:=(YW n).map c
theorem abu {n:Nat}{c:Nat→Nat}{i:Nat}(hi:i < n):(Bl n c)[i]? =some (c i):=by unfold Bl;simp [hi]
theorem abv (n:Nat)(c:Nat→Nat):(Bl n c).length=n:=by simp [Bl]
end
section
open Go Go.RowKit Go.MapKept
structure gu (κ:Type) where
 kv:κ→Value
 ty:TypeId
 chk:∀ (b:Bool) (x:κ) (w:World),(Instr.checkKey b 10000 ty (kv x)).run Tryz.prog w=.ok () w
 find:∀ (x:κ) (es:List MapEntry) (L:List κ) (w:World),es.map MapEntry.key=L.map kv→∃ r,(Instr.findKey ty (kv x) es).run Tryz.prog w=.ok r w∧((x ∉ L∧r=none)∨∃ j e,es[j]? =some e∧L[j]? =some x∧r=some (j,e.val))
 same:∀ x,Instr.sameBits 10000 (kv x) (kv x)=true
def gu.basic {κ:Type}(ty:TypeId)(d:TypeDesc)(hd:Tryz.prog.underlying ty=some d)(kv:κ→Value)(inj:∀ x y,kv x=kv y→x=y)(hk:∀ x,IsKey d (kv x))(same:∀ x,Instr.sameBits 10000 (kv x) (kv x)=true):gu κ where
 kv:=kv
 ty:=ty
 chk b x w:=run_checkKey hd (hk x) b 9999
 same:=same
 find x es L w h:=by
  have hl:∀ e∈es,∃ y∈L,e.key=kv y:=fun e he=>by
   have:e.key∈L.map kv:=by rw [← h];exact Zd he
   obtain ⟨y,hy,e2⟩:=List.mem_map.1 this;exact ⟨y,hy,e2.symm⟩
  rcases findNow_spec (hk x) es 0 (fun e he=>by obtain ⟨y,_,e2⟩:=hl e he;rw [e2];exact hk y) with ⟨h1,h2⟩ | ⟨j,e,h1,h2,h3⟩
  ·refine ⟨none,run_findKey hd h1,.inl ⟨fun hx=>?_,rfl⟩⟩;have:kv x∈es.map MapEntry.key:=by rw [h];exact Zd hx
   obtain ⟨e,he,e2⟩:=List.mem_map.1 this;exact h2 e he e2
  ·rw [Zh] at h1;refine ⟨some (j,e.val),run_findKey hd h1,.inr ⟨j,e,h2,?_,rfl⟩⟩;have h4:=congrArg (fun l=>l[j]?) h;simp only [ZT,h2,Zx] at h4;cases hj:L[j]? with
   | none=>rw [hj] at h4;cases h4
   | some y =>
    rw [hj] at h4;simp only [Zx,Option.some.injEq] at h4;rw [inj y x (by rw [← h4,h3])]
def kW:gu Int:=.basic 3 (.int .i64) Tryz.underlying3 (fun n=>.int .i64 n) (fun x y h=>by simpa using h) (fun x=>by simp [IsKey]) (fun x=>by simp [Instr.sameBits])
def dH:gu ByteArray:=.basic 9 .string Tryz.underlying9 (fun s=>.string s) (fun x y h=>by simpa using h) (fun x=>trivial) (fun x=>by show (x.data==x.data)=true;exact beq_self_eq_true _)
section
variable {κ:Type} [DecidableEq κ] {β:Type}
def bI (k:κ)(v:β):List (κ×β)→List (κ×β)
 | []=>[(k,v)]
 | p::r=>if p.1=k then (k,v)::r else p::bI k v r
def aT (k:κ):List (κ×β)→Option β
 | []=>none
 | p::r=>if p.1=k then some p.2 else aT k r
theorem tY (k k':κ)(v:β):∀ L,aT k' (bI k v L)=if k'=k then some v else aT k' L
 | []=>by simp only [bI,aT];by_cases h:k=k' <;> simp [h,eq_comm]
 | p::r=>by
  rw [bI];split
  ·rename_i h;rw [aT,aT,h];by_cases h2:k=k' <;> simp [h2,eq_comm]
  ·rename_i h;rw [aT,aT,tY k k' v r];by_cases h2:p.1=k'
   ·rw [if_pos h2,if_neg (fun e=>h (h2.trans e)),if_pos h2]
   ·rw [if_neg h2,if_neg h2]
theorem qY {k:κ}:∀ {L:List (κ×β)},aT k L=none ↔ k ∉ L.map Zw
 | []=>by simp [aT]
 | p::r=>by
  rw [aT,Zt,YU,not_or];by_cases h:p.1=k
  ·simp [h]
  ·rw [if_neg h,qY];exact ⟨fun e=>⟨fun e2=>h e2.symm,e⟩,fun e=>e.2⟩
theorem Ud {k:κ}{v:β}:∀ {L:List (κ×β)},aT k L=some v→(k,v)∈L
 | [],h=>by simp [aT] at h
 | p::r,h=>by
  rw [aT] at h;by_cases e:p.1=k
  ·rw [if_pos e] at h;obtain rfl:p.2=v:=by simpa using h
   rw [← e];exact Y2
  ·rw [if_neg e] at h;exact Zq _ (Ud h)
theorem vU {k:κ}{v:β}:∀ {L:List (κ×β)},k ∉ L.map Zw→bI k v L=L++[(k,v)]
 | [],_=>rfl
 | p::r,h=>by
  rw [Zt,YU,not_or] at h;rw [bI,if_neg (fun e=>h.1 e.symm),vU h.2];rfl
theorem kR {k:κ}{v:β}:∀ {L:List (κ×β)} {j:Nat},(L.map Zw).Nodup→L[j]? =some (k,v)→aT k L=some v∧∀ u,bI k u L=L.set j (k,u)
 | [],j,_,h=>by simp at h
 | p::r,0,_,h=>by
  obtain rfl:p=(k,v):=by simpa using h
  exact ⟨by simp [aT],fun u=>by simp [bI]⟩
 | p::r,j + 1,hn,h=>by
  have h2:r[j]? =some (k,v):=by simpa using h
  rw [Zt,List.nodup_cons] at hn;have hne:¬ p.1=k:=fun e=>hn.1 (by rw [e];exact List.mem_map.2 ⟨(k,v),Z7 h2,rfl⟩);obtain ⟨a1,a2⟩:=kR hn.2 h2;exact ⟨by rw [aT,if_neg hne];exact a1,fun u=>by rw [bI,if_neg hne,a2 u];rfl⟩
theorem KC {k:κ}{v:β}{L:List (κ×β)}(hn:(L.map Zw).Nodup):((bI k v L).map Zw).Nodup:=by
 by_cases h:k∈L.map Zw
 ·obtain ⟨p,hp,e⟩:=List.mem_map.1 h;obtain ⟨j,hj,e2⟩:=Zn hp;have hj2:L[j]? =some (k,p.2):=by rw [Z8 hj,e2,← e]
  rw [(kR hn hj2).2 v,Zg];have:(L.map Zw).set j k=L.map Zw:=by
   apply Zu;intro i;rw [Zv];by_cases e3:j=i
   ·subst e3;rw [if_pos rfl,ZT,hj2];simp [hj]
   ·rw [if_neg e3]
  rw [this];exact hn
 ·rw [vU h,ZP,List.nodup_append];refine ⟨hn,by simp,fun a ha b hb=>?_⟩;simp at hb;subst hb;exact fun e=>h (e ▸ ha)
end
section
variable {κ:Type}
abbrev kvG (e:MapEntry):Value×Value:=(e.key,e.val)
abbrev kvP (K:gu κ)(p:κ×Value):Value×Value:=(K.kv p.1,p.2)
structure sU (K:gu κ) (es:Array MapEntry) (clock:Nat) (L:List (κ×Value)):Prop where
 kv:es.toList.map kvG=L.map (kvP K)
 nd:(L.map Zw).Nodup
 lt:∀ e∈es.toList,e.born < clock
 bn:(es.toList.map MapEntry.born).Nodup
def mO (K:gu κ)(w:World)(X:Nat)(L:List (κ×Value)):Prop:=∃ es clock,w.heap[X]? =some (.map es clock)∧sU K es clock L
def Chunk.aJ (K:gu κ)(X:Nat)(L:List (κ×Value)):Chunk :=
 ⟨some X,fun _ w=>mO K w X L,fun k _ hd ⟨es,c,h,e⟩=>⟨es,c,(k.block X (Array.getElem?_eq_some_iff.1 h).1 (hd X rfl)).trans h,e⟩,fun _ h=>h,fun ⟨_,_,h,_⟩ k e=>by cases e;exact (Array.getElem?_eq_some_iff.1 h).1⟩
def Chunk.xH (X:Nat)(es:Array MapEntry)(clock:Nat):Chunk :=
 ⟨none,fun M w=>¬ M X∧w.heap[X]? =some (.map es clock),fun k hd _ ⟨h1,h2⟩=>⟨h1,(k.block X (Array.getElem?_eq_some_iff.1 h2).1 (fun e=>h1 (hd X e))).trans h2⟩,
  fun hm ⟨h1,h2⟩=>⟨fun e=>h1 ((hm X (Array.getElem?_eq_some_iff.1 h2).1 e).resolve_right (by simp)),h2⟩,fun _ _ e=>by cases e⟩
def Chunk.iter (R X:Nat)(since:Nat)(seen:Array Nat)(c0:Nat):Chunk :=
 ⟨some R,fun _ w=>w.heap[R]? =some (.mapIter (some X) since seen c0),fun k _ hd h=>(k.block R (Array.getElem?_eq_some_iff.1 h).1 (hd R rfl)).trans h,fun _ h=>h,fun h k e=>by cases e;exact (Array.getElem?_eq_some_iff.1 h).1⟩
theorem sU.keys {K:gu κ}{es:Array MapEntry}{clock:Nat}{L:List (κ×Value)}(h:sU K es clock L):es.toList.map MapEntry.key=(L.map Zw).map K.kv:=by
 have:=congrArg (List.map Zw) h.kv
 simpa [Function.comp_def] using this
theorem sU.at' {K:gu κ}{es:Array MapEntry}{clock:Nat}{L:List (κ×Value)}(h:sU K es clock L){j:Nat}{e:MapEntry}{k:κ}(he:es.toList[j]? =some e)(hk:(L.map Zw)[j]? =some k):L[j]? =some (k,e.val)∧e.key=K.kv k:=by
 have h1:=congrArg (fun l=>l[j]?) h.kv;simp only [ZT,he,Zx] at h1;rw [ZT] at hk;cases hj:L[j]? with
 | none=>rw [hj] at h1;cases h1
 | some p =>
  rw [hj] at h1 hk;simp only [Zx,Option.some.injEq,Prod.mk.injEq] at h1 hk;obtain ⟨p1,p2⟩:=p;simp only at h1 hk;subst hk;exact ⟨by rw [h1.2],h1.1⟩
theorem tJ [DecidableEq κ]{K:gu κ}{w:World}{X:Nat}{L:List (κ×Value)}{T E:TypeId}(h:mO K w X L)(hT:Tryz.prog.underlying T=some (.map K.ty E)){z:Value}(hz:(zeroValue E).run Tryz.prog w=.ok z w)(k:κ)(ok:Bool) :
  (Instr.lookup T (.map (some X)) (K.kv k) ok).run Tryz.prog w=.ok (if ok then .tuple #[(aT k L).getD z,.bool (aT k L).isSome] else (aT k L).getD z) w:=by
 obtain ⟨es,clock,hb,he⟩:=h;have hck:=K.chk es.isEmpty k w;obtain ⟨r,hr,hc⟩:=K.find k es.toList (L.map Zw) w he.keys;rcases hc with ⟨h4,rfl⟩ | ⟨j,e,h4,h5,rfl⟩
 ·have hg:=qY.2 h4;cases ok <;> simp [Instr.lookup,run_underlying hT,Go.MapKept.run_getObj_map hb,hck,hr,hz,hg,Result.andThen]
 ·have hg:=(kR he.nd (he.at' h4 h5).1).1;cases ok <;> simp [Instr.lookup,run_underlying hT,Go.MapKept.run_getObj_map hb,hck,hr,hg,Result.andThen]
theorem aiB [DecidableEq κ]{K:gu κ}{w:World}{X:Nat}{L:List (κ×Value)}{T E:TypeId}(h:mO K w X L)(hT:Tryz.prog.underlying T=some (.map K.ty E))(k:κ)(u:Value) :
  ∃ w',(Instr.mapUpdate T (.map (some X)) (K.kv k) u).run Tryz.prog w=.ok () w'∧mO K w' X (bI k u L)∧w.grownBy w' (some X):=by
 obtain ⟨es,clock,hb,he⟩:=h;have hck:=K.chk false k w;have gr:∀ o,w.grownBy { w with heap:=w.heap.setIfInBounds X o } (some X):=fun o=>⟨rfl,rfl,rfl,by simp,fun j hj hne=>(heap_set hb).2 j (fun e=>hne (by rw [e]))⟩;obtain ⟨r,hr,hc⟩:=K.find k es.toList (L.map Zw) w he.keys;rcases hc with ⟨h4,rfl⟩ | ⟨j,e,h4,h5,rfl⟩
 ·refine ⟨{ w with heap:=w.heap.setIfInBounds X (.map (es.push ⟨K.kv k,u,clock⟩) (clock + 1)) },?_,⟨_,_,(heap_set hb).1,?_⟩,gr _⟩
  ·simp [Instr.mapUpdate,run_underlying hT,Go.MapKept.run_getObj_map hb,hck,hr,run_setObj_map _ hb,Result.andThen]
  ·refine ⟨?_,KC he.nd,fun x hx=>?_,?_⟩
   ·rw [YT,ZP,he.kv,vU h4,ZP];rfl
   ·rw [YT,List.mem_append] at hx;rcases hx with hx | hx
    ·have:=he.lt x hx;omega
    ·rw [List.mem_singleton.1 hx];exact Nat.lt_succ_self _
   ·rw [YT,ZP,List.nodup_append];refine ⟨he.bn,by simp,fun a ha b hb'=>?_⟩;obtain ⟨x,hx,rfl⟩:=List.mem_map.1 ha;have h6:=he.lt x hx;simp at hb';omega
 ·obtain ⟨a1,a2⟩:=he.at' h4 h5;have h3':es[j]? =some e:=by rw [← YQ];exact h4
  have hs:=K.same k;refine ⟨{ w with heap:=w.heap.setIfInBounds X (.map (es.modify j fun e=>{ e with key:=K.kv k,val:=u }) clock) },?_,⟨_,_,(heap_set hb).1,?_⟩,gr _⟩
  ·simp [Instr.mapUpdate,run_underlying hT,Go.MapKept.run_getObj_map hb,hck,hr,run_setObj_map _ hb,Result.andThen,h3',a2,Instr.keyThatStays,hs]
  ·have hm:(es.modify j fun e=>{ e with key:=K.kv k,val:=u }).toList=es.toList.set j { e with key:=K.kv k,val:=u }:=by
    rw [Array.toList_modify];apply Zu;intro i;rw [List.getElem?_modify,Zv];by_cases hij:j=i
    ·subst hij;rw [if_pos rfl,h4,if_pos (bM h4)];simp
    ·rw [if_neg hij];simp [hij]
   refine ⟨?_,KC he.nd,fun x hx=>?_,?_⟩
   ·rw [hm,Zg,he.kv,(kR he.nd a1).2 u,Zg]
   ·rw [hm] at hx;rcases List.mem_or_eq_of_mem_set hx with hx | rfl
    ·exact he.lt x hx
    ·exact he.lt e (Z7 h4)
   ·rw [hm,Zg];have:(es.toList.map MapEntry.born).set j e.born=es.toList.map MapEntry.born:=by
     apply Zu;intro i;rw [Zv];by_cases hij:j=i
     ·subst hij;have hj:=bM h4;rw [if_pos rfl,ZT,h4,if_pos (by rw [ZW];exact hj)];rfl
     ·rw [if_neg hij]
    rw [this];exact he.bn
structure gY (K:gu κ) (es:Array MapEntry) (clock:Nat) (seen:Array Nat) (L done left:List (κ×Value)):Prop where
 ok:sU K es clock L
 iF:(leftOf es seen).toList.map kvG=left.map (kvP K)
 perm:(done++left).Perm L
theorem gY.start {K:gu κ}{es:Array MapEntry}{clock:Nat}{L:List (κ×Value)}(h:sU K es clock L):gY K es clock #[] L [] L :=
 ⟨h,by
  have:leftOf es #[]=es:=by unfold leftOf;simp
  rw [this];exact h.kv,List.Perm.refl _⟩
theorem aiC (es:Array MapEntry)(seen:Array Nat)(x:Nat):leftOf es (seen.push x)=(leftOf es seen).filter (fun e=>e.born != x):=by
 unfold leftOf;rw [Array.filter_filter];congr 1
 funext e
 have:(seen.push x).contains e.born=(seen.contains e.born || e.born==x):=by
  rw [Y7,Ze,Array.contains_iff_mem,Array.contains_iff_mem,Array.mem_push,beq_iff_eq]
 rw [this];cases seen.contains e.born <;> cases h:(e.born==x) <;> simp [bne,h]
theorem Ue {α β:Type}(f:α→β):∀ (l:List α) (i:Nat),(l.eraseIdx i).map f=(l.map f).eraseIdx i
 | [],i=>by simp
 | a::r,0=>by simp
 | a::r,i + 1=>by simp [Ue f r i]
theorem aiD {l:List MapEntry}(hn:(l.map MapEntry.born).Nodup){i:Nat}{e:MapEntry}(he:l[i]? =some e):l.filter (fun x=>x.born != e.born)=l.eraseIdx i:=by
 induction l generalizing i with
 | nil=>simp at he
 | cons a r ih =>
  rw [Zt,List.nodup_cons] at hn;cases i with
  | zero =>
   obtain rfl:a=e:=by simpa using he
   rw [List.filter_cons_of_neg (by simp),List.eraseIdx_cons_zero,List.filter_eq_self.2];intro x hx;simp only [bne_iff_ne,ne_eq];exact fun e2=>hn.1 (by rw [← e2];exact Zd hx)
  | succ i =>
   have he2:r[i]? =some e:=by simpa using he
   have hne:¬ a.born=e.born:=fun e2=>hn.1 (by rw [e2];exact Zd (Z7 he2));rw [List.filter_cons_of_pos (by simpa using hne),List.eraseIdx_cons_succ,ih hn.2 he2]
theorem gY.step {K:gu κ}{es:Array MapEntry}{clock:Nat}{seen:Array Nat}{L done left:List (κ×Value)}(h:gY K es clock seen L done left){e:MapEntry}(he:e∈(leftOf es seen).toList) :
  ∃ p left',e.key=K.kv p.1∧e.val=p.2∧p∈left∧gY K es clock (seen.push e.born) L (done++[p]) left'∧left'.length + 1=left.length∧e∈es.toList:=by
 obtain ⟨i,hi,hie⟩:=Zn he;have hi2:(leftOf es seen).toList[i]? =some e:=by rw [Z8 hi,hie]
 have hbn:((leftOf es seen).toList.map MapEntry.born).Nodup:=by
  unfold leftOf;rw [Array.toList_filter];exact h.ok.bn.sublist (List.Sublist.map _ List.filter_sublist)
 have h1:=congrArg (fun l=>l[i]?) h.iF;simp only [ZT,hi2,Zx] at h1;cases hp:left[i]? with
 | none=>rw [hp] at h1;cases h1
 | some p =>
  rw [hp] at h1;simp only [Zx,Option.some.injEq,Prod.mk.injEq] at h1;have hpl:=bM hp;refine ⟨p,left.eraseIdx i,h1.1,h1.2,Z7 hp,⟨h.ok,?_,?_⟩,?_,?_⟩
  ·rw [aiC,Array.toList_filter,aiD hbn hi2];rw [Ue,Ue,h.iF]
  ·refine List.Perm.trans ?_ h.perm;rw [ZM];refine List.Perm.append_left _ ?_;obtain ⟨_,rfl⟩:=List.getElem?_eq_some_iff.1 hp;exact Nj left i hpl
  ·rw [List.length_eraseIdx,if_pos hpl];omega
  ·unfold leftOf at he;simp at he;simpa using he.1
theorem gY.fin {K:gu κ}{es:Array MapEntry}{clock:Nat}{seen:Array Nat}{L done left:List (κ×Value)}(h:gY K es clock seen L done left)(h0:(leftOf es seen).size=0):left=[]∧done.Perm L:=by
 have h1:left=[]:=by
  have:=congrArg Zf h.iF
  rw [ZW,ZW,Y8,h0] at this;exact List.length_eq_zero_iff.1 this.symm
 subst h1;exact ⟨rfl,by simpa using h.perm⟩
end
section
variable {κ:Type} {w0 w:World} {cs:List Chunk}
theorem Mem.zD (K:gu κ)(S:Mem w0 w cs)(X:Nat)(hX:X=w.heap.size):Mem w0 (w.alloc (.map #[] 0)) (cs++[.aJ K X []]):=by
 subst hX;exact S.call ((ZX _ _).alloc (Z5 _) _) _ ⟨#[],0,by show (w.heap.push (.map #[] 0))[w.heap.size]? =_;simp,⟨rfl,by simp,by simp,by simp⟩⟩ (fun k e=>by cases e;exact Z5 _)
theorem Mem.aiE {K:gu κ}(S:Mem w0 w cs)(i:Nat){X:Nat}{L:List (κ×Value)}(hi:cs[i]? =some (.aJ K X L)):∃ es clock,sU K es clock L∧Mem w0 w (cs.set i (.xH X es clock)):=by
 obtain ⟨es,clock,hb,he⟩:=S.ok _ (Z7 hi);refine ⟨es,clock,he,S.b,fun c hc=>?_,fun c hc k e=>?_,?_⟩
 ·have hX:=S.new _ (Z7 hi) X rfl;have hi':=bM hi;have hne:∀ j c,cs[j]? =some c→j≠i→c.blk≠some X:=fun j c hj hji e=>by
   have hp:=List.pairwise_iff_getElem.1 S.sep;obtain ⟨hjl,rfl⟩:=List.getElem?_eq_some_iff.1 hj;obtain ⟨hil,hie⟩:=List.getElem?_eq_some_iff.1 hi;rcases Nat.lt_or_gt_of_ne hji with h | h
   ·exact hp j i hjl hil h X e (by rw [hie];rfl)
   ·exact hp i j hil hjl h X (by rw [hie];rfl) e
  rcases nR hc with rfl | ⟨j,hji,hj⟩
  ·refine ⟨fun hm=>?_,hb⟩;rcases hm with hm | ⟨q,hq,e⟩
   ·omega
   ·rcases nR hq with rfl | ⟨j,hji,hj⟩
    ·cases e
    ·exact hne j q hj hji e
  ·refine c.mono (fun k _ e=>.inl ?_) (S.ok c (Z7 hj));rcases e with e | ⟨q,hq,e⟩
   ·exact .inl e
   ·rcases nR hq with rfl | ⟨j2,_,hj2⟩
    ·cases e
    ·exact .inr ⟨q,Z7 hj2,e⟩
 ·rcases nR hc with rfl | ⟨j,_,hj⟩
  ·cases e
  ·exact S.new c (Z7 hj) k e
 ·refine List.pairwise_iff_getElem.2 fun a b ha hb' hab k e1 e2=>?_;have hp:=List.pairwise_iff_getElem.1 S.sep;rw [ZU] at ha hb';rw [List.getElem_set] at e1 e2;split at e1
  ·cases e1
  ·split at e2
   ·cases e2
   ·exact hp a b ha hb' hab k e1 e2
theorem Mem.aiF (S:Mem w0 w cs)(i:Nat){X:Nat}{es:Array MapEntry}{clock:Nat}(hi:cs[i]? =some (.xH X es clock)){T k e:TypeId}(hT:Tryz.prog.underlying T=some (.map k e)) :
  (Instr.range T (.map (some X))).run Tryz.prog w=.ok (.pointer (some ⟨w.heap.size,0,none⟩)) (w.alloc (.mapIter (some X) clock #[] clock))∧Mem w0 (w.alloc (.mapIter (some X) clock #[] clock)) (cs++[.iter w.heap.size X clock #[] clock]):=by
 obtain ⟨_,hb⟩:=S.ok _ (Z7 hi);exact ⟨run_range_map w T k e X es clock hT hb,S.call ((ZX _ _).alloc (Z5 _) _) _ (by show (w.heap.push _)[w.heap.size]? =_;simp) (fun k e=>by cases e;exact Z5 _)⟩
theorem Mem.Qb (S:Mem w0 w cs){X:Nat}{es:Array MapEntry}{clock:Nat}(hb:w.heap[X]? =some (.map es clock)){T k e:TypeId}(hT:Tryz.prog.underlying T=some (.map k e)) :
  (Instr.range T (.map (some X))).run Tryz.prog w=.ok (.pointer (some ⟨w.heap.size,0,none⟩)) (w.alloc (.mapIter (some X) clock #[] clock))∧Mem w0 (w.alloc (.mapIter (some X) clock #[] clock)) (cs++[.iter w.heap.size X clock #[] clock]) :=
 ⟨run_range_map w T k e X es clock hT hb,S.call ((ZX _ _).alloc (Z5 _) _) _ (by show (w.heap.push _)[w.heap.size]? =_;simp) (fun k e=>by cases e;exact Z5 _)⟩
theorem Mem.LQ {K:gu κ}(S:Mem w0 w cs)(j:Nat){X R clock c0:Nat}{es:Array MapEntry}{seen:Array Nat}{L done left:List (κ×Value)}(hb:w.heap[X]? =some (.map es clock))(hj:cs[j]? =some (.iter R X clock seen c0))(hc:clock≤c0)(hr:gY K es clock seen L done left) :
  (left=[]∧done.Perm L∧∀ ty,(Instr.next (.pointer (some ⟨R,0,none⟩)) false ty).run Tryz.prog w=.ok (.tuple #[.bool false]) w) ∨
  ∃ p left' seen' w',p∈left∧left'.length + 1=left.length∧gY K es clock seen' L (done++[p]) left'∧(∀ ty,(Instr.next (.pointer (some ⟨R,0,none⟩)) false ty).run Tryz.prog w=.ok (.tuple #[.bool true,K.kv p.1,p.2]) w') ∧
   (Instr.entry (.pointer (some ⟨R,0,none⟩))).run Tryz.prog w'=.ok (.tuple #[K.kv p.1,p.2]) w'∧Mem w0 w' (cs.set j (.iter R X clock seen' clock)):=by
 have hR:w.heap[R]? =some (.mapIter (some X) clock seen c0):=S.ok _ (Z7 hj);have hRn:=S.new _ (Z7 hj) R rfl;by_cases h0:(leftOf es seen).size=0
 ·obtain ⟨h1,h2⟩:=hr.fin h0;refine .inl ⟨h1,h2,fun ty=>?_⟩;rcases run_next_at (P:=Tryz.prog) w ty R X clock c0 seen es clock hR hb hr.ok.lt hc with ⟨_,h⟩ | ⟨e,he,_⟩
  ·exact h
  ·exact absurd h0 (by
    have:0 < (leftOf es seen).toList.length:=List.length_pos_of_mem he
    rw [Y8] at this;omega)
 ·have key:∀ ty,∃ e∈(leftOf es seen).toList,∃ w1:World,(w1=w∨w1=w.drew)∧(Instr.next (.pointer (some ⟨R,0,none⟩)) false ty).run Tryz.prog w=.ok (.tuple #[.bool true,e.key,e.val]) (Go.ChangeMaps.setBlock w1 R (.mapIter (some X) clock (seen.push e.born) clock)):=fun ty=>by
   rcases run_next_at (P:=Tryz.prog) w ty R X clock c0 seen es clock hR hb hr.ok.lt hc with ⟨h,_⟩ | h
   ·exact absurd h h0
   ·exact h
  have hty:∀ ty,(Instr.next (.pointer (some ⟨R,0,none⟩)) false ty)=(Instr.next (.pointer (some ⟨R,0,none⟩)) false 0):=fun ty=>rfl;obtain ⟨e,he,w1,hw1,hrun⟩:=key 0;obtain ⟨p,left',h1,h2,h3,h4,h5,h6⟩:=hr.step he;right
  have hR1:w1.heap[R]? =some (.mapIter (some X) clock seen c0):=by rcases hw1 with rfl | rfl <;> exact hR
  have hX1:w1.heap[X]? =some (.map es clock):=by rcases hw1 with rfl | rfl <;> exact hb
  have hXR:X≠R:=fun e=>by rw [e,hR1] at hX1;cases hX1
  have hset:(Go.ChangeMaps.setBlock w1 R (.mapIter (some X) clock (seen.push e.born) clock)).heap[R]? =some (.mapIter (some X) clock (seen.push e.born) clock):=(heap_set hR1).1;have hoth:∀ k,k≠R→(Go.ChangeMaps.setBlock w1 R (.mapIter (some X) clock (seen.push e.born) clock)).heap[k]? =w.heap[k]? :=fun k hk=>by
   rw [show (Go.ChangeMaps.setBlock w1 R (.mapIter (some X) clock (seen.push e.born) clock)).heap[k]? =w1.heap[k]? from (heap_set hR1).2 k hk];rcases hw1 with rfl | rfl <;> rfl
  have hsz:(Go.ChangeMaps.setBlock w1 R (.mapIter (some X) clock (seen.push e.born) clock)).heap.size=w.heap.size:=by
   show (w1.heap.setIfInBounds _ _).size=_;rw [Array.size_setIfInBounds];rcases hw1 with rfl | rfl <;> rfl
  have hent:=run_entry_at (P:=Tryz.prog) _ R X clock seen es clock e hset ((hoth X hXR).trans hb) h6 hr.ok.bn;refine ⟨p,left',seen.push e.born,_,h3,h5,h4,fun ty=>by rw [hty ty,hrun,h1,h2],by rw [hent,h1,h2],?_⟩;have hbl:Below w0.heap.size w (Go.ChangeMaps.setBlock w1 R (.mapIter (some X) clock (seen.push e.born) clock)) :=
   ⟨by rcases hw1 with rfl | rfl <;> rfl,by rcases hw1 with rfl | rfl <;> rfl,by rcases hw1 with rfl | rfl <;> rfl,by rw [hsz];exact Z5 _,fun k hk=>hoth k (by omega)⟩
  exact S.upd j hj (.iter R X clock (seen.push e.born) clock) ⟨by rw [hsz];exact Z5 _,fun k _ hn=>hoth k (fun e2=>hn (by rw [e2];rfl))⟩ (S.b.trans hbl) (fun k e=>.inl e) hset
theorem Mem.aiG {K:gu κ}(S:Mem w0 w cs)(i j:Nat){X R clock c0:Nat}{es:Array MapEntry}{seen:Array Nat}{L done left:List (κ×Value)}(hi:cs[i]? =some (.xH X es clock))(hj:cs[j]? =some (.iter R X clock seen c0))(hc:clock≤c0)(hr:gY K es clock seen L done left) :
  (left=[]∧done.Perm L∧∀ ty,(Instr.next (.pointer (some ⟨R,0,none⟩)) false ty).run Tryz.prog w=.ok (.tuple #[.bool false]) w) ∨
  ∃ p left' seen' w',p∈left∧left'.length + 1=left.length∧gY K es clock seen' L (done++[p]) left'∧(∀ ty,(Instr.next (.pointer (some ⟨R,0,none⟩)) false ty).run Tryz.prog w=.ok (.tuple #[.bool true,K.kv p.1,p.2]) w') ∧
   (Instr.entry (.pointer (some ⟨R,0,none⟩))).run Tryz.prog w'=.ok (.tuple #[K.kv p.1,p.2]) w'∧Mem w0 w' (cs.set j (.iter R X clock seen' clock)) :=
 S.LQ j (S.ok _ (Z7 hi)).2 hj hc hr
end
section
variable {κ:Type} [DecidableEq κ] {w0 w:World} {cs:List Chunk} {ops:Array Oper} {rest:List Oper} {o:Oper} {a:Act} {Q:Exit→Act→World→Prop}
theorem Mem.SB {K:gu κ}(S:Mem w0 w cs)(i:Nat){X:Nat}{L:List (κ×Value)}(hi:cs[i]? =some (.aJ K X L)){T E:TypeId}(hT:Tryz.prog.underlying T=some (.map K.ty E)){z:Value}(hz:∀ w,(zeroValue E).run Tryz.prog w=.ok z w)
  (hgd:o.guard=none) (m x:Operand) (ok:Bool) (hop:o.op=.lookup T m x ok) (hm:a.eval m=.map (some X)) (y:κ) (hx:a.eval x=K.kv y) (h:wpList Tryz.prog ops Q rest (a.put o.dst (if ok then .tuple #[(aT y L).getD z,.bool (aT y L).isSome] else (aT y L).getD z)) w):wpList Tryz.prog ops Q (o::rest) a w:=by
 have hrun:=tJ (S.ok _ (Z7 hi)) hT (hz w) y ok;refine wpList_plain hgd fun K' hK'=>?_;unfold Oper.wp;simp only [execOp,hop,hm,hx,hrun,Sem.run_bind,Sem.run_pure,Result.andThen_ok];exact hK' _ _ h
theorem Mem.wP {K:gu κ}(S:Mem w0 w cs)(i:Nat){X:Nat}{L:List (κ×Value)}(hi:cs[i]? =some (.aJ K X L)){T E:TypeId}(hT:Tryz.prog.underlying T=some (.map K.ty E))
  (hgd:o.guard=none) (m x v:Operand) (hop:o.op=.mapUpdate T m x v) (hm:a.eval m=.map (some X)) (y:κ) (hx:a.eval x=K.kv y) (u:Value) (hv:a.eval v=u)
  (h:∀ w',Mem w0 w' (cs.set i (.aJ K X (bI y u L)))→wpList Tryz.prog ops Q rest (a.put o.dst undef) w'):wpList Tryz.prog ops Q (o::rest) a w:=by
 obtain ⟨w',hrun,hm',hgr⟩:=aiB (S.ok _ (Z7 hi)) hT y u;have hX:=S.new _ (Z7 hi) X rfl;have hbl:Below w0.heap.size w w':=(ZX _ w).grown hgr S.b.size (fun k hk=>by cases hk;exact hX);have S2:=S.upd i hi (.aJ K X (bI y u L)) ⟨hgr.size,fun k hk hn=>hgr.block k hk (fun e=>hn e.symm)⟩ (S.b.trans hbl) (fun k e=>.inl e) hm';refine wpList_plain hgd fun K' hK'=>?_;unfold Oper.wp;simp [execOp,hop,hm,hx,hv,hrun,Result.andThen];exact hK' _ _ (h w' S2)
end
end
section
open Go Go.RowKit Go.MapKept
theorem abw (x:ah):∀ (es:List MapEntry) (L:List ah) (i:Nat) (w:World),es.map MapEntry.key=L.map yX→∃ r,(Instr.findAsking 46 (yX x) es i).run Tryz.prog w=.ok r w∧((x ∉ L∧r=none)∨∃ j e,es[j]? =some e∧L[j]? =some x∧r=some (i + j,e.val))
 | [],L,i,w,h=>by
  cases L with
  | nil=>exact ⟨none,by simp [Instr.findAsking],.inl ⟨by simp,rfl⟩⟩
  | cons p r=>simp at h
 | e::es,[],i,w,h=>by simp at h
 | e::es,p::r,i,w,h=>by
  simp only [Zt,List.cons.injEq] at h;obtain ⟨h1,h3⟩:=h;have hq:=aiH x p w;rw [aiI] at hq;by_cases hx:x=p
  ·refine ⟨some (i,e.val),?_,.inr ⟨0,e,rfl,by simp [hx],rfl⟩⟩;rw [decide_eq_true hx] at hq;simp [Instr.findAsking,h1,hq]
  ·rw [decide_eq_false hx] at hq;obtain ⟨r',hr,hc⟩:=abw x es r (i + 1) w h3;refine ⟨r',by simp [Instr.findAsking,h1,hq,hr],?_⟩;rcases hc with ⟨h4,h5⟩ | ⟨j,e',h4,h5,h6⟩
   ·exact .inl ⟨by simp [hx,h4],h5⟩
   ·exact .inr ⟨j + 1,e',by simpa using h4,by simpa using h5,by rw [h6,show i + (j + 1)=i + 1 + j by omega]⟩
def aU:gu ah where
 kv:=yX
 ty:=46
 chk b x w:=aiJ x b 9998 w
 same:=aiK
 find x es L w h:=by
  have e:=run_findKey_eq (P:=Tryz.prog) (w:=w) (k:=46) (by kernel_rfl) (yX x) es;obtain ⟨r,hr,hc⟩:=abw x es L 0 w h;refine ⟨r,by rw [e];exact hr,?_⟩;rcases hc with h1 | ⟨j,e',h4,h5,h6⟩
  ·exact .inl h1
  ·exact .inr ⟨j,e',h4,h5,by rw [h6,Zh]⟩
end
section
open Go Go.RowKit
def qZ (x:ah)(i:Nat):List ak→List Nat
 | []=>[]
 | t::r=>(if x∈t.ids then [i] else [])++qZ x (i + 1) r
def hav (l:List ak)(x:ah):List Nat:=qZ x 0 l
theorem abx (x:ah)(t:ak):∀ (l:List ak) (i:Nat),qZ x i (l++[t])=qZ x i l++(if x∈t.ids then [i + l.length] else [])
 | [],i=>by simp [qZ]
 | a::r,i=>by
  rw [List.cons_append,qZ,abx x t r (i + 1),qZ,ZM,ZV,show i + 1 + r.length=i + (r.length + 1) by omega]
theorem aby (x:ah):∀ (l:List ak) (i j:Nat),j∈qZ x i l ↔ ∃ t,i≤j∧l[j - i]? =some t∧x∈t.ids
 | [],i,j=>by simp [qZ]
 | a::r,i,j=>by
  rw [qZ,List.mem_append,aby x r (i + 1) j];constructor
  ·rintro (h | ⟨t,h1,h2,h3⟩)
   ·split at h
    ·rename_i hx;obtain rfl:j=i:=by simpa using h
     exact ⟨a,Z5 _,by simp,hx⟩
    ·cases h
   ·refine ⟨t,by omega,?_,h3⟩;rw [show j - i=(j - (i + 1)) + 1 by omega,List.getElem?_cons_succ];exact h2
  ·rintro ⟨t,h1,h2,h3⟩;by_cases e:j=i
   ·subst e;rw [Nat.sub_self] at h2;obtain rfl:a=t:=by simpa using h2
    exact .inl (by rw [if_pos h3];simp)
   ·refine .inr ⟨t,by omega,?_,h3⟩;rw [show j - i=(j - (i + 1)) + 1 by omega,List.getElem?_cons_succ] at h2;exact h2
theorem Uf {l:List ak}{x:ah}{j:Nat}:j∈hav l x ↔ ∃ t,l[j]? =some t∧x∈t.ids:=by
 unfold hav;rw [aby];constructor
 ·rintro ⟨t,_,h2,h3⟩;exact ⟨t,h2,h3⟩
 ·rintro ⟨t,h2,h3⟩;exact ⟨t,ZN _,h2,h3⟩
theorem KD {l:List ak}{x:ah}{j:Nat}(h:j∈hav l x):j < l.length:=by
 obtain ⟨t,h1,_⟩:=Uf.1 h;exact bM h1
theorem Ug (l:List ak)(x:ah):(hav l x).length≤l.length:=by
 have h:∀ (l:List ak) (i:Nat),(qZ x i l).length≤l.length:=by
  intro l;induction l with
  | nil=>intro i;simp [qZ]
  | cons a r ih =>
   intro i;rw [qZ,Z4,ZV];have:=ih (i + 1)
   split <;> simp <;> omega
 exact h l 0
theorem aiL {l:List ak}{x:ah}{k:Nat}{t:ak}(h:l[k]? =some t):hav (l.take (k + 1)) x=hav (l.take k) x++(if x∈t.ids then [k] else []):=by
 unfold hav;rw [take_snoc h,abx,Zh,ZR,Zl (Nat.le_of_lt (bM h))]
def some1 (l:List Nat):Option (List Nat):=if l=[] then none else some l
def uh (L:List (ah×List Nat))(i:Nat)(x:ah):List (ah×List Nat):=bI x ((aT x L).getD []++[i]) L
def gB (l:List ak)(k:Nat)(xs:List ah)(L:List (ah×List Nat)):Prop:=(L.map Zw).Nodup∧∀ x,aT x L=some1 (hav (l.take k) x++(if x∈xs then [k] else []))
theorem Uh (l:List Nat):(some1 l).getD []=l:=by unfold some1;split <;> simp_all
theorem gB.add {l:List ak}{k:Nat}{xs:List ah}{L:List (ah×List Nat)}(h:gB l k xs L){x:ah}(hx:x ∉ xs):gB l k (xs++[x]) (uh L k x):=by
 refine ⟨KC h.1,fun y=>?_⟩;unfold uh;rw [tY,h.2 x,Uh,if_neg hx,ZH];by_cases e:y=x
 ·subst e;rw [if_pos rfl,if_pos (by simp)];unfold some1;rw [if_neg (by simp)]
 ·rw [if_neg e,h.2 y];simp [e]
theorem gB.next {l:List ak}{k:Nat}{t:ak}{L:List (ah×List Nat)}(ht:l[k]? =some t)(h:gB l k t.ids L):gB l (k + 1) [] L:=⟨h.1,fun x=>by rw [h.2 x,aiL ht];simp⟩
theorem gB.start (l:List ak):gB l 0 [] []:=⟨by simp,fun x=>by simp [aT,some1,hav,qZ]⟩
def mD (r:aP)(l:List ak)(x:ah):Bool:=decide (x.k∈r.kinds) && !decide (x∈r.weak) && decide (((hav l x).length:Int)≤r.most)
def cZ (l:List ak)(i:Nat):List ah:=match l[i]? with | some t=>t.ids | none=>[]
theorem Gg {l:List ak}{i:Nat}{t:ak}(h:l[i]? =some t):cZ l i=t.ids:=by unfold cZ;rw [h]
def Edge (r:aP)(l:List ak)(i j:Nat):Prop:=∃ x,mD r l x=true∧x∈cZ l i∧x∈cZ l j
theorem En {l:List ak}{i:Nat}{x:ah}:x∈cZ l i ↔ i∈hav l x:=by
 rw [Uf];unfold cZ;cases h:l[i]? with
 | none=>simp
 | some t=>simp
def Bo (x:ah):List ah→List ah
 | []=>[x]
 | y::r=>if dA x y < 0 then x::y::r else if dA x y=0 then y::r else y::Bo x r
def sV (l:List ah):List ah:=l.foldr Bo []
theorem Ui (x:ah):∀ (l:List ah) (y:ah),y∈Bo x l ↔ y=x∨y∈l
 | [],y=>by simp [Bo]
 | z::r,y=>by
  rw [Bo];split
  ·simp
  ·split
   ·rename_i h;have e:=Jr h;subst e;simp
   ·rw [YU,Ui x r y,YU];exact ⟨fun h=>h.elim (fun e=>.inr (.inl e)) (fun h=>h.elim .inl (fun e=>.inr (.inr e))),fun h=>h.elim (fun e=>.inr (.inl e)) (fun h=>h.elim .inl (fun e=>.inr (.inr e)))⟩
theorem abz (x:ah):∀ (l:List ah),oJ l→oJ (Bo x l)
 | [],_=>by simp [Bo,oJ]
 | z::r,h=>by
  obtain ⟨h1,h2⟩:=List.pairwise_cons.1 h;rw [Bo];split
  ·rename_i hx;exact List.pairwise_cons.2 ⟨fun y hy=>by
    rcases List.mem_cons.1 hy with rfl | hy
    ·exact hx
    ·exact nS.lt hx (Int.le_of_lt (h1 y hy)),h⟩
  ·rename_i hx;split
   ·exact h
   ·rename_i hz;refine List.pairwise_cons.2 ⟨fun y hy=>?_,abz x r h2⟩;rcases (Ui x r y).1 hy with rfl | hy
    ·have:=nS.anti z y
     omega
    ·exact h1 y hy
theorem aiM (l:List ah):oJ (sV l):=by
 unfold sV;induction l with
 | nil=>exact List.Pairwise.nil
 | cons x r ih=>exact abz x _ ih
theorem aiN (l:List ah)(y:ah):y∈sV l ↔ y∈l:=by
 unfold sV;induction l with
 | nil=>simp
 | cons x r ih=>rw [List.foldr_cons,Ui,ih,YU]
theorem aiO {l m:List ah}(hl:oJ l)(hm:oJ m)(h:∀ x,x∈l ↔ x∈m):l=m :=
 Me (fun a b=>dA a b < 0) (fun x=>by rw [nS.refl x];exact Int.lt_irrefl 0) (fun x y z h1 h2=>nS.lt h1 (Int.le_of_lt h2)) l m hl hm h
theorem abA {l m:List ah}(hm:oJ m)(h:∀ x,x∈m ↔ x∈l):m=sV l:=aiO hm (aiM l) (fun x=>by rw [h,aiN])
structure Psn where
 key:ah
 aC:List Int
 ids:List ah
def uj (r:aP)(l:List ak)(t:ak):ah:=(t.ids.find? (mD r l)).getD (t.ids.headD ⟨0,⟨#[]⟩⟩)
def partAt (c:Nat→Nat)(n i:Nat):List Nat:=(YW n).filter (fun k=>c k==i)
def jQ (l:List ak)(i:Nat):Int:=match l[i]? with | some t=>t.no | none=>0
def BR (r:aP)(l:List ak)(c:Nat→Nat)(i:Nat):Psn :=
 ⟨match l[i]? with | some t=>uj r l t | none=>⟨0,⟨#[]⟩⟩,(partAt c l.length i).map (jQ l),sV ((partAt c l.length i).flatMap (cZ l))⟩
def heads (c:Nat→Nat)(n:Nat):List Nat:=(YW n).filter (fun i=>c i==i)
def xQ (r:aP)(l:List ak)(c:Nat→Nat):List Psn:=(heads c l.length).map (BR r l c)
def Uj (r:aP)(l:List ak)(P:List Psn):Prop:=∃ c,iO l.length (Edge r l) c∧P=xQ r l c
theorem aeA {c d:Nat→Nat}{n:Nat}(h:∀ i,i < n→c i=d i)(i:Nat):partAt c n i=partAt d n i:=by
 unfold partAt;exact List.filter_congr fun k hk=>by rw [h k (by simpa using hk)]
theorem aez {c d:Nat→Nat}{n:Nat}(h:∀ i,i < n→c i=d i):heads c n=heads d n:=by
 unfold heads;exact List.filter_congr fun k hk=>by rw [h k (by simpa using hk)]
end
section
open Go Go.RowKit
def iL (js:List Nat):List Int:=js.map Int.ofNat
theorem kX (js:List Nat):(iL js).length=js.length:=by simp [iL]
theorem OD (js:List Nat)(k:Nat):iL (js++[k])=iL js++[(k:Int)]:=by simp [iL]
theorem jY {js:List Nat}{i k:Nat}(h:js[i]? =some k):(iL js)[i]? =some (k:Int):=by simp [iL,h]
theorem Gh (js:List Nat)(i k:Nat):iL (js.set i k)=(iL js).set i (k:Int):=by simp [iL,Zg]
structure HQ where
 x:ah
 A:Option Addr
 c:Nat
 js:List Nat
def HQ.v (q:HQ):Value:=.slice q.A q.js.length q.c
def HQ.kv (q:HQ):ah×Value:=(q.x,.slice q.A q.js.length q.c)
def HQ.kl (q:HQ):ah×List Nat:=(q.x,q.js)
def hq (B:Nat)(q:HQ):Chunk:=.own ay B 3 (.slice q.A q.js.length q.c) (iL q.js)
def xI (B X:Nat)(qs:List HQ):List Chunk:=.aJ aU X (qs.map HQ.kv)::qs.map (hq B)
theorem OE (qs:List HQ):(qs.map HQ.kv).map Zw=qs.map HQ.x:=by simp [HQ.kv,Function.comp_def]
theorem Eo (qs:List HQ):(qs.map HQ.kl).map Zw=qs.map HQ.x:=by simp [HQ.kl,Function.comp_def]
theorem abB (qs:List HQ)(hn:(qs.map HQ.x).Nodup)(x:ah) :
  (x ∉ qs.map HQ.x∧aT x (qs.map HQ.kv)=none∧aT x (qs.map HQ.kl)=none) ∨
  ∃ (j:Nat) (q:HQ),qs[j]? =some q∧q.x=x∧aT x (qs.map HQ.kv)=some q.v∧aT x (qs.map HQ.kl)=some q.js:=by
 by_cases h:x∈qs.map HQ.x
 ·right
  obtain ⟨q,hq,e⟩:=List.mem_map.1 h;obtain ⟨j,hj⟩:=List.mem_iff_getElem?.1 hq;refine ⟨j,q,hj,e,?_,?_⟩
  ·exact (kR (L:=qs.map HQ.kv) (j:=j) (k:=x) (v:=q.v) (by rw [OE];exact hn) (by rw [ZT,hj];subst e;rfl)).1
  ·exact (kR (L:=qs.map HQ.kl) (j:=j) (k:=x) (v:=q.js) (by rw [Eo];exact hn) (by rw [ZT,hj];subst e;rfl)).1
 ·exact .inl ⟨h,qY.2 (by rw [OE];exact h),qY.2 (by rw [Eo];exact h)⟩
theorem Uk {qs:List HQ}(hn:(qs.map HQ.x).Nodup){j:Nat}{q q':HQ}(hj:qs[j]? =some q)(hx:q'.x=q.x):bI q.x q'.v (qs.map HQ.kv)=(qs.set j q').map HQ.kv∧bI q.x q'.js (qs.map HQ.kl)=(qs.set j q').map HQ.kl:=by
 constructor
 ·rw [(kR (L:=qs.map HQ.kv) (j:=j) (k:=q.x) (v:=q.v) (by rw [OE];exact hn) (by rw [ZT,hj];rfl)).2 q'.v,Zg];rw [← hx];rfl
 ·rw [(kR (L:=qs.map HQ.kl) (j:=j) (k:=q.x) (v:=q.js) (by rw [Eo];exact hn) (by rw [ZT,hj];rfl)).2 q'.js,Zg];rw [← hx];rfl
theorem abC {qs:List HQ}{q:HQ}(h:q.x ∉ qs.map HQ.x):bI q.x q.v (qs.map HQ.kv)=(qs++[q]).map HQ.kv∧bI q.x q.js (qs.map HQ.kl)=(qs++[q]).map HQ.kl:=by
 constructor
 ·rw [vU (by rw [OE];exact h),ZP];rfl
 ·rw [vU (by rw [Eo];exact h),ZP];rfl
def abD (M:Nat→Prop)(w:World)(qs:List HQ):Prop:=∀ q∈qs,Sl ay M w q.A (iL q.js)
def Chunk.slots (qs:List HQ):Chunk :=
 ⟨none,fun M w=>abD M w qs,fun k hd _ h q hq=>(h q hq).keep (k.mono hd),fun hm h q hq=>(h q hq).mono (fun k hk e=>(hm k hk e).resolve_right (by simp)),fun _ _ e=>by cases e⟩
theorem Mem.Bj {w0 w:World}{cs ds:List Chunk}(S:Mem w0 w (cs++ds))(c:Chunk)(hc:c.blk=none)(hok:c.ok (bT w0.heap.size cs) w):Mem w0 w (cs++[c]):=by
 have hm:∀ k,bT w0.heap.size (cs++[c]) k→bT w0.heap.size cs k:=fun k e=>by
  rcases e with e | ⟨q,hq,e⟩
  ·exact .inl e
  ·rcases List.mem_append.1 hq with hq | hq
   ·exact .inr ⟨q,hq,e⟩
   ·rw [List.mem_singleton.1 hq,hc] at e;cases e
 refine ⟨S.b,fun d hd=>?_,fun d hd k e=>?_,?_⟩
 ·rcases List.mem_append.1 hd with hd | hd
  ·refine d.mono (fun k _ e=>.inl ?_) (S.ok d (Za _ hd));rcases hm k e with e | ⟨q,hq,e⟩
   ·exact .inl e
   ·exact .inr ⟨q,Za _ hq,e⟩
  ·rw [List.mem_singleton.1 hd];exact c.mono (fun k _ e=>.inl (hm k e)) hok
 ·rcases List.mem_append.1 hd with hd | hd
  ·exact S.new d (Za _ hd) k e
  ·rw [List.mem_singleton.1 hd,hc] at e;cases e
 ·refine List.pairwise_append.2 ⟨(List.pairwise_append.1 S.sep).1,YS _ _,fun x _ y hy k _ e2=>?_⟩;rw [List.mem_singleton.1 hy,hc] at e2;cases e2
theorem Mem.aiP {w0 w:World}{cs:List Chunk}{B:Nat}{qs:List HQ}(S:Mem w0 w (cs++qs.map (hq B))):Mem w0 w (cs++[.slots qs]):=by
 refine S.Bj (.slots qs) rfl (fun q hq'=>?_);have hmem:hq B q∈cs++qs.map (hq B):=List.mem_append_right _ (Zd hq');have ho:Own ay (bT w0.heap.size (cs++qs.map (hq B))) B 3 w (.slice q.A q.js.length q.c) (iL q.js):=S.ok _ hmem;have hs:=ho.xR lY;intro i x hx;obtain ⟨blk,off,l,e1,h1,_,h3,h4⟩:=hs i x hx;refine ⟨blk,off,l,e1,h1,fun hm=>?_,h3,h4⟩;have hb:(hq B q).blk=some blk:=by
  show (Value.slice q.A q.js.length q.c).ownBlock=some blk;rw [e1];rfl
 have hnew:=S.new _ hmem blk hb;rcases hm with hm | ⟨d,hd,e⟩
 ·omega
 ·exact (List.pairwise_append.1 S.sep).2.2 d hd _ (Zd hq') blk e hb
end
section
open Go Go.RowKit
def Keeps (c:Nat→Nat)(p q:List Nat):Prop:=∀ j:Nat,p[j]? =some (c j)→q[j]? =some (c j)
theorem Keeps.trans {c:Nat→Nat}{p q r:List Nat}(h:Keeps c p q)(g:Keeps c q r):Keeps c p r:=fun j e=>g j (h j e)
theorem iP.lt {n:Nat}{p:List Nat}{c:Nat→Nat}(h:iP n p c){i q:Nat}(hq:p[i]? =some q):i < n:=by
 have:=bM hq
 rw [h.len] at this;exact this
theorem iP.aiQ {n:Nat}{p:List Nat}{c:Nat→Nat}(h:iP n p c)(hle:∀ i,i < n→c i≤i){m:Nat}(hm:m < n)(hc:c m=m):p[m]? =some m:=by
 obtain ⟨s,hs⟩:∃ s,p[m]? =some s:=⟨_,Z8 (by rw [h.len];exact hm)⟩;obtain ⟨a1,a2,_⟩:=h.at' m s hs;have:=hle s (by omega)
 have e:s=m:=by omega
 rw [hs,e]
theorem iP.keeps {n:Nat}{p:List Nat}{c:Nat→Nat}(h:iP n p c)(hle:∀ i,i < n→c i≤i)(hfix:∀ i,i < n→c (c i)=c i){i q r:Nat}(hq:p[i]? =some q)(hr:p[q]? =some r):Keeps c p (p.set i r):=fun j hj=>by
 rw [Zv];by_cases e:i=j
 ·subst e;rw [hq] at hj;obtain rfl:q=c i:=Option.some.inj hj;have hi:=h.lt hq;rw [h.aiQ hle (Nat.lt_of_le_of_lt (hle i hi) hi) (hfix i hi)] at hr;obtain rfl:=Option.some.inj hr;rw [if_pos rfl,if_pos (bM hq)]
 ·rw [if_neg e];exact hj
def aiR (w0:World)(R g B n cap:Nat)(c:Nat→Nat)(i:Nat)(p:List Nat)(cs:List Chunk)(e:Ending)(w':World):Prop :=
 ∃ q:List Nat,e=.returned (.int .i64 (c i))∧iP n q c∧Keeps c p q∧Mem w0 w' (.loc R #[.slice (some ⟨g,0,none⟩) n cap] 22::.own ay B 3 (.slice (some ⟨g,0,none⟩) n cap) (iL q)::cs)
theorem Ul (w0 w:World)(R g B n cap:Nat)(c:Nat→Nat)(i:Nat)(p:List Nat)(cs:List Chunk)(hR:iP n p c)(hle:∀ i,i < n→c i≤i)(hfix:∀ i,i < n→c (c i)=c i)(hi:i < n)
  (S:Mem w0 w (.loc R #[.slice (some ⟨g,0,none⟩) n cap] 22::.own ay B 3 (.slice (some ⟨g,0,none⟩) n cap) (iL p)::cs)) :
  Calls Tryz.prog 194 #[.int .i64 i,.pointer (some ⟨R,0,none⟩)] w (aiR w0 R g B n cap c i p cs):=by
 have HR:=Z9 hR;have nG:=Z9 hle;have vV:=Z9 hfix;clear hR hle hfix;go_enter Tryz.func194,Tryz.ntmps194
 go_wp2_with fail
 go_loopw [0] (fun v wr=>∃ (m:Nat) (q:List Nat),m < n∧v=.int .i64 m∧Hid (c m=c i)∧Hid (iP n q c)∧Hid (Keeps c p q)∧Mem w0 wr (.loc R #[.slice (some ⟨g,0,none⟩) n cap] 22::.own ay B 3 (.slice (some ⟨g,0,none⟩) n cap) (iL q)::cs)) (fun v _=>(intOf v).toNat)
 case atStart=>exact ⟨i,p,hi,rfl,rfl,HR.out,fun _ h=>h,S⟩
 case round =>
  clear S HR;obtain ⟨m,q,hm,rfl,Hc,HR,HK,S⟩:=hrel;obtain ⟨s,hs⟩:∃ s,q[m]? =some s:=⟨_,Z8 (by rw [HR.out.len];exact hm)⟩;have hln:n=(iL q).length:=by rw [kX,HR.out.len]
  have c0:=(S.lv 0 rfl).cell 0 _ rfl;have c1:=((S.ow 1 rfl).sO hln m s (jY hs)).1;have Gi:=Z9 hln;have Hs:=Z9 hs;clear hln hs;by_cases hsm:s=m
  ·subst hsm;have hcs:c s=s:=HR.out.root Hs.out;go_wp2_with fail
   go_ret;exact ⟨q,congrArg (fun k:Nat=>Ending.returned (.int .i64 (k:Nat))) (hcs.symm.trans Hc.out),HR.out,HK.out,S⟩
  ·obtain ⟨a1,a2,_⟩:=HR.out.at' m s Hs.out;have Ha2:=Z9 a2;have hsn:s < m:=by omega
   obtain ⟨t,ht⟩:∃ t,q[s]? =some t:=⟨_,Z8 (by rw [HR.out.len];omega)⟩;obtain ⟨b1,b2,_⟩:=HR.out.at' s t ht;have Hb2:=Z9 b2;have c2:=((S.ow 1 rfl).sO Gi.out s t (jY ht)).1;have f1:=((S.ow 1 rfl).sO Gi.out m s (jY Hs.out)).2;have hd1:decide ((s:Int)=(m:Int))=false:=by simp;omega
   have Ht:=Z9 ht;clear a2 b2 ht;have hne:((s:Int) != (m:Int))=true:=by simp;omega
   have hst:t < n:=by omega
   go_wp2_with fail
   go_region
   have S1:Mem w0 (wr.setCell ⟨g,m,none⟩ (.int .i64 t)) (.loc R #[.slice (some ⟨g,0,none⟩) n cap] 22::.own ay B 3 (.slice (some ⟨g,0,none⟩) n cap) (iL (q.set m t))::cs):=by
    rw [Gh];exact S.FZ 1 rfl Gi.out m s t (jY Hs.out)
   have hd:je (wr.setCell ⟨g,m,none⟩ (.int .i64 t)) _:=rfl;have S2:=S1.below (hd.below _);clear S S1 hd c0 c1 c2 f1;generalize (wr.setCell ⟨g,m,none⟩ (.int .i64 t)).drew=w2 at *;have hq:q.length=n:=HR.out.len;have hm2:(q.set m t)[m]? =some t:=ZY (by omega);have c0:=(S2.lv 0 rfl).cell 0 _ rfl;have c1:=((S2.ow 1 rfl).sO (by rw [kX,ZU];exact hq.symm) m t (jY hm2)).1;have gQ:Hid (iP n (q.set m t) c):=HR.out.aiA Hs.out Ht.out;have HK2:Hid (Keeps c p (q.set m t)):=HK.out.trans (HR.out.keeps nG.out vV.out Hs.out Ht.out);have ji:Hid (c t=c i):=(Hb2.out.trans Ha2.out).trans Hc.out;clear hq hm2 Hc HR HK Ha2 Hb2 Ht Hs Gi hne hd1;generalize q.set m t=q2 at *;go_wp2_with fail
   go_roundw
   case rel=>exact ⟨t,q2,hst,rfl,ji,gQ,HK2,S2⟩
   case measure=>simp [intOf];omega
end
section
open Go Go.RowKit
def aiS {α:Type}(cf:α→Int)(xs:List α)(w:World)(e:Ending)(w':World):Prop :=
 ∃ (i:Nat) (b:Bool),e=.returned (.tuple #[.int .i64 i,.bool b])∧i≤xs.length∧(∀ p f,p < i→xs[p]? =some f→cf f < 0)∧(∀ p f,i≤p→xs[p]? =some f→0≤cf f)∧(b=true ↔ ∃ f,xs[i]? =some f∧cf f=0)∧Below w.heap.size w w'
def KE (l:List ah):Prop:=l.Pairwise (fun a b=>dA a b≤0)
theorem oJ.srt {l:List ah}(h:oJ l):KE l:=List.Pairwise.imp (fun {a b} h=>by omega) h
theorem aiT {a b y:ah}(h1:dA a b≤0)(h2:dA b y < 0):dA a y < 0:=by
 refine Int.not_le.1 fun h=>?_;have h3:dA y a≤0:=by
  refine Int.not_lt.1 fun h4=>?_;have:=(nS.anti a y).2 h4
  omega
 have h4:=nS.trans y a b h3 h1;have h5:=(nS.anti b y).1 h2;omega
theorem aiU {xs:List ah}{y:ah}{i:Nat}{b:Bool}(hs:KE xs)(hlo:∀ p f,p < i→xs[p]? =some f→dA f y < 0)(hhi:∀ p f,i≤p→xs[p]? =some f→0≤dA f y)(hb:b=true ↔ ∃ f,xs[i]? =some f∧dA f y=0):b=true ↔ ∃ f∈xs,dA f y=0:=by
 rw [hb];constructor
 ·rintro ⟨f,hf,h0⟩;exact ⟨f,Z7 hf,h0⟩
 ·rintro ⟨f,hf,h0⟩;obtain ⟨p,hp⟩:=List.mem_iff_getElem?.1 hf;rcases Nat.lt_trichotomy p i with h | h | h
  ·have:=hlo p f h hp;omega
  ·subst h;exact ⟨f,hp,h0⟩
  ·have hpl:=bM hp;have hi:i < xs.length:=by omega
   obtain ⟨_,ep⟩:=List.getElem?_eq_some_iff.1 hp;have h1:=List.pairwise_iff_getElem.1 hs i p hi hpl h;rw [ep] at h1;have h2:=hhi i xs[i] (Z5 _) (Z8 hi);have h3:=nS.trans xs[i] f y h1 (by omega);exact ⟨xs[i],Z8 hi,by omega⟩
theorem aiV (N:Nat→Prop)(A:Option Addr)(xs:List ah)(y:ah)(c:Nat)(w:World)(hS:Sl aO N w A xs)(hn:xs.length≤1000000)(kD:KE xs) :
  Calls Tryz.prog 177 #[.slice A xs.length c,.agg #[.int .i64 y.k,.string y.t],.func (.func 116) #[] #[]] w (aiS (fun x=>dA x y) xs w):=by
 have hb0:Below w.heap.size w (w.alloc (.cells #[.int .i64 y.k,.string y.t] 46)):=(ZX _ _).alloc (Z5 _) _;have fD:LV _ w.heap.size _ _:=LV.new w w.heap.size #[.int .i64 y.k,.string y.t] 46 rfl;have HS:=Z9 (fun w' (h:Below w.heap.size w w')=>hS.aK h);have jE:Hid (∀ (i j:Nat) (a b:ah),i < j→xs[i]? =some a→xs[j]? =some b→dA b y < 0→dA a y < 0):=fun i j a b hij ha hb h=>by
  obtain ⟨hi,rfl⟩:=List.getElem?_eq_some_iff.1 ha;obtain ⟨hj,rfl⟩:=List.getElem?_eq_some_iff.1 hb;exact aiT (List.pairwise_iff_getElem.1 kD i j hi hj hij) h
 obtain ⟨cf,OG⟩:∃ cf:ah→Int,Hid ((fun x=>dA x y)=cf):=⟨_,Z9 rfl⟩;rw [OG.out];have Hce:Hid (∀ f,jA f.k f.t y.k y.t=cf f):=fun f=>by rw [← OG.out];rfl
 have abE:Hid (∀ (i j:Nat) (a b:ah),i < j→xs[i]? =some a→xs[j]? =some b→cf b < 0→cf a < 0):=fun i j a b hij ha hb h=>by
  rw [← OG.out] at h ⊢;exact jE.out i j a b hij ha hb h
 have Hb0:=Z9 hb0;clear hS kD jE OG hb0;have jE:=abE;clear abE;go_enter Tryz.func177,Tryz.ntmps177
 go_upto_region 1 with fail
 generalize w.alloc (.cells #[.int .i64 y.k,.string y.t] 46)=w1 at *;obtain ⟨Y,hY⟩:∃ Y,Y=w.heap.size:=⟨_,rfl⟩;rw [← hY] at fD ⊢;clear hY;go_wp2_with fail
 go_loopw [9,10] (fun a b wr=>∃ i j:Nat,i≤j∧j≤xs.length∧a=.int .i64 i∧b=.int .i64 j∧Hid (∀ p f,p < i→xs[p]? =some f→cf f < 0)∧Hid (∀ p f,j≤p→xs[p]? =some f→0≤cf f)∧Below w1.heap.size w1 wr) (fun a b _=>(intOf b).toNat - (intOf a).toNat)
 case atStart=>exact ⟨0,xs.length,by omega,by omega,rfl,rfl,(fun p f h=>by omega),(fun p f h hp=>by rw [ZG h] at hp;cases hp),ZX _ _⟩
 case round =>
  obtain ⟨i,j,hij,hj,rfl,rfl,jI,jJ,hbl⟩:=hrel;have yG:=Z9 hbl;have um:=Z9 (LV.dQ fD hbl fD.lt);have Au:=Z9 (HS.out wr (Hb0.out.trans (hbl.mono Hb0.out.size)));clear hbl;by_cases hlt:i < j
  ·obtain ⟨h,hh⟩:∃ h:Nat,h=(i + j) / 2:=⟨_,rfl⟩;have h1:i≤h:=by omega
   have h2:h < j:=by omega
   have eh:((i:Int) + (j:Int)) / 2=(h:Int):=by omega
   clear hh;obtain ⟨f,hf⟩:∃ f,xs[h]? =some f:=⟨_,Z8 (by omega)⟩;have Hf:=Z9 hf;obtain ⟨blk,off,rfl,hblk,d0,d1⟩:=Au.out.qx h f hf;obtain ⟨cm,fO⟩:∃ cm,Hid (cf f=cm):=⟨_,Z9 rfl⟩;have Hld:=Z9 (fun w' (h':Below wr.heap.size wr w')=>gU ((h'.cell (p:=⟨blk,off + h * 2,none⟩) hblk).trans d0) ((h'.cell (p:=⟨blk,off + h * 2 + 1,none⟩) hblk).trans d1));clear d0 d1 hf;go_upto_region 5 with fail
   go_wp2_with fail
   refine dF (fun w'=>Below wr.heap.size wr w') [(true,0),(true,1),(true,2),(true,3),(true,4),(true,5),(false,6),(true,7)] (by kernel_rfl) (by kernel_rfl) (fun w' hd=>hd.below _) (fun KK aF wd aW=>?_);have hC:=aW.below wr.heap.size;clear aW;refine aA ?_;refine bV (.agg #[.int .i64 f.k,.string f.t]) rfl rfl rfl (fun w' h=>Hld.out w' h) ?_;refine aA ?_;refine bV (.agg #[.int .i64 y.k,.string y.t]) rfl rfl rfl (fun w' h=>gU ((LV.dQ um.out h um.out.lt).cell 0 _ rfl) ((LV.dQ um.out h um.out.lt).cell 1 _ rfl)) ?_;refine aA ?_;refine aV rfl (fun K hK=>?_) hC;have Ho:=Z9 (Rf f.k y.k f.t y.t wd);rw [show jA f.k f.t y.k y.t=cm from (Hce.out f).trans fO.out] at Ho;go_wp2_with fail
   refine (Ho.out).mono ?_;rintro e w3 ⟨rfl,hl3⟩;have dB:=hC.trans (hl3.mono hC.size);clear Ho hl3;go_wp2_with fail
   refine ⟨dB,?_⟩;refine aA ?_;refine dG ?_;simp only [Exit.then];refine aF _ _ ?_;have Hb1:Hid (Below w1.heap.size w1 w3):=yG.out.trans (dB.mono yG.out.size);clear dB hC Hld;by_cases hc:cm < 0
   ·have Hl:Hid (∀ p g,p < h + 1→xs[p]? =some g→cf g < 0):=fun p g hp hg=>by
     by_cases vK:p=h
     ·subst vK;rw [Hf.out] at hg;cases hg;rw [fO.out];exact hc
     ·exact jE.out p h g f (by omega) hg Hf.out (by rw [fO.out];omega)
    go_wp2_with fail
    go_roundw
    case rel=>exact ⟨h + 1,j,by omega,by omega,by go_num,rfl,Hl.out,jJ.out,Hb1.out⟩
    case measure=>simp [intOf];omega
   ·have Hl:Hid (∀ p g,h≤p→xs[p]? =some g→0≤cf g):=fun p g hp hg=>by
     by_cases vK:p=h
     ·subst vK;rw [Hf.out] at hg;cases hg;rw [fO.out];omega
     ·refine Int.not_lt.1 fun hn=>?_;have:=jE.out h p f g (by omega) Hf.out hg (by omega)
      rw [fO.out] at this;exact hc this
    go_wp2_with fail
    go_roundw
    case rel=>exact ⟨i,h,by omega,by omega,rfl,rfl,jI.out,Hl.out,Hb1.out⟩
    case measure=>simp [intOf];omega
  ·obtain rfl:i=j:=by omega
   obtain ⟨h,hh⟩:∃ h:Nat,h=i:=⟨_,rfl⟩;by_cases hlen:h < xs.length
   ·obtain ⟨f,hf⟩:∃ f,xs[h]? =some f:=⟨_,Z8 hlen⟩;subst hh;have Hf:=Z9 hf;obtain ⟨blk,off,rfl,hblk,d0,d1⟩:=Au.out.qx h f hf;obtain ⟨cm,fO⟩:∃ cm,Hid (cf f=cm):=⟨_,Z9 rfl⟩;have Hld:=Z9 (fun w' (h':Below wr.heap.size wr w')=>gU ((h'.cell (p:=⟨blk,off + h * 2,none⟩) hblk).trans d0) ((h'.cell (p:=⟨blk,off + h * 2 + 1,none⟩) hblk).trans d1));clear d0 d1 hf;go_upto_region 8 with fail
    go_wp2_with fail
    refine dF (fun w'=>Below wr.heap.size wr w') [(true,0),(true,1),(true,2),(true,3),(true,4),(true,5),(true,6),(true,7),(true,8),(true,9),(true,10),(false,11),(true,12),(true,13),(true,14),(true,15)] (by kernel_rfl) (by kernel_rfl) (fun w' hd=>hd.below _) (fun KK aF wd aW=>?_);have hC:=aW.below wr.heap.size;clear aW;refine aA ?_;refine bV (.agg #[.int .i64 f.k,.string f.t]) rfl rfl rfl (fun w' h=>Hld.out w' h) ?_;refine aA ?_;refine bV (.agg #[.int .i64 y.k,.string y.t]) rfl rfl rfl (fun w' h=>gU ((LV.dQ um.out h um.out.lt).cell 0 _ rfl) ((LV.dQ um.out h um.out.lt).cell 1 _ rfl)) ?_;refine aA ?_;refine aV rfl (fun K hK=>?_) hC;have Ho:=Z9 (Rf f.k y.k f.t y.t wd);rw [show jA f.k f.t y.k y.t=cm from (Hce.out f).trans fO.out] at Ho;go_wp2_with fail
    refine (Ho.out).mono ?_;rintro e w3 ⟨rfl,hl3⟩;have dB:=hC.trans (hl3.mono hC.size);clear Ho hl3;go_wp2_with fail
    refine ⟨dB,?_⟩;refine aA ?_;refine dG ?_;simp only [Exit.then];refine aF _ _ ?_;have Hb1:Hid (Below w.heap.size w w3):=Hb0.out.trans ((yG.out.trans (dB.mono yG.out.size)).mono Hb0.out.size);go_wp2_with fail
    go_ret2
    refine ⟨h,(cm==0),rfl,by omega,jI.out,jJ.out,?_,Hb1.out⟩;rw [beq_iff_eq];exact ⟨fun h0=>⟨f,Hf.out,by rw [fO.out,h0]⟩,fun ⟨g,hg,h0⟩=>by rw [Hf.out] at hg;cases hg;rw [← fO.out,h0]⟩
   ·subst hh;have hl1:decide ((h:Int) < (xs.length:Int))=false:=by simp;omega
    go_upto_region 8 with fail
    go_wp2_with fail
    refine dF (fun w'=>Below wr.heap.size wr w') [(true,0),(true,1),(true,2),(true,3),(true,4),(true,5),(true,6),(true,7),(true,8),(true,9),(true,10),(false,11),(true,12),(true,13),(true,14),(true,15)] (by kernel_rfl) (by kernel_rfl) (fun w' hd=>hd.below _) (fun KK aF wd aW=>?_);have hC:=aW.below wr.heap.size;clear aW;refine aA ?_;refine aV rfl (fun K hK=>?_) hC;go_wp2_with fail
    refine ⟨hC,?_⟩;refine aA ?_;refine dG ?_;simp only [Exit.then];refine aF _ _ ?_;go_wp2_with fail
    go_ret2
    exact ⟨h,false,rfl,by omega,jI.out,jJ.out,⟨(fun h=>by cases h),(fun ⟨g,hg,_⟩=>by rw [ZG (by omega)] at hg;cases hg)⟩,Hb0.out.trans ((yG.out.trans (hC.mono yG.out.size)).mono Hb0.out.size)⟩
end
section
open Go Go.RowKit
abbrev kJ (r:aP)(K:Option Addr)(ck:Nat)(W:Option Addr)(cw:Nat)(S:Option Addr)(cs:Nat)(A:Option Addr)(n c X:Nat):Array Value :=
 #[.slice K r.kinds.length ck,.int .i64 r.most,.slice W r.weak.length cw,.slice S r.aX.length cs,.slice A n c,.map (some X)]
theorem abG (w:World):(zeroValue 22).run Tryz.prog w=.ok (.slice none 0 0) w:=by kernel_rfl
def KF (r:aP)(x:ah)(n:Nat):Bool:= !decide (x∈r.weak) && (decide (x.k∈r.kinds) && decide ((n:Int)≤r.most))
theorem eX {P:Program}{t:TypeId}{ad:Addr}{v:Value}{w:World}(hty:(isAgg t).run P w=.ok false w)(hc:w.cell? ad=some v):(Instr.loadAt t (.pointer (some ad))).run P w=.ok v w:=by
 simp only [Instr.loadAt,Instr.sureAddr,loadVar,Sem.run_bind,Sem.run_pure,Result.andThen_ok,hty,YP,if_false];simp [load,Sem.run,hc]
theorem aiW (N:Nat→Prop)(G X:Nat)(r:aP)(K W S A:Option Addr)(ck cw cs n c:Nat)(L:List (ah×Value))(x:ah)(A':Option Addr)(n' c':Nat)(w:World)(hG:LV w G (kJ r K ck W cw S cs A n c X) 180)(hR:kN N w r K W S)(hM:mO aU w X L)
  (hx:(aT x L).getD (.slice none 0 0)=.slice A' n' c') (hw:KE r.weak) (hwl:r.weak.length≤1000000) (hkl:r.kinds.length≤1000000) :
  Calls Tryz.prog 195 #[.pointer (some ⟨G,0,none⟩),.agg #[.int .i64 x.k,.string x.t]] w fun e w'=>e=.returned (.bool (KF r x n'))∧Below w.heap.size w w':=by
 have hb0:Below w.heap.size w (w.alloc (.cells #[.int .i64 x.k,.string x.t] 46)):=(ZX _ _).alloc (Z5 _) _;have Hb0:=Z9 hb0;have gq:LV _ w.heap.size _ _:=LV.new w w.heap.size #[.int .i64 x.k,.string x.t] 46 rfl;have HM:Hid (∀ w',Below w.heap.size w w'→mO aU w' X L):=fun w' h=>by
  obtain ⟨es,cl,hb,he⟩:=hM;exact ⟨es,cl,(h.block X (Array.getElem?_eq_some_iff.1 hb).1).trans hb,he⟩
 have HG:=Z9 (fun w' (h:Below w.heap.size w w')=>(LV.dQ hG h hG.lt));have JV:=Z9 (fun w' (h:Below w.heap.size w w')=>aiV N W r.weak x cw w' (hR.wk.aK h) hwl hw);have Hct:=Z9 (fun w' (h:Below w.heap.size w w')=>Ih N K r.kinds ck r.kinds.length x.k w' (hR.kd.aK h) (Z5 _) hkl);have jE:=Z9 hw;obtain ⟨R,HR⟩:∃ R,Hid (KF r x n'=R):=⟨_,Z9 rfl⟩;rw [HR.out];have Hx:=Z9 hx;clear hb0 hG hR hM hx hw;go_enter Tryz.func195,Tryz.ntmps195
 go_upto_region 1 with fail
 generalize w.alloc (.cells #[.int .i64 x.k,.string x.t] 46)=w1 at *;obtain ⟨Y,hY⟩:∃ Y,Y=w.heap.size:=⟨_,rfl⟩;rw [← hY] at gq ⊢;clear hY;have z0:=(HG.out _ Hb0.out).all;have y0:=gq.all;have Gj:=Hb0.out.size;have Um:Hid (∀ w',Below w1.heap.size w1 w'→LV w' G (kJ r K ck W cw S cs A n c X) 180):=fun w' h=>HG.out w' (Hb0.out.trans (h.mono Gj));have Gl:Hid (∀ w',Below w1.heap.size w1 w'→LV w' Y #[.int .i64 x.k,.string x.t] 46):=fun w' h=>LV.dQ gq h gq.lt;have xw:Hid (∀ w',Below w1.heap.size w1 w'→mO aU w' X L):=fun w' h=>HM.out w' (Hb0.out.trans (h.mono Gj));have abH:=Z9 (fun w' (h:Below w1.heap.size w1 w')=>JV.out w' (Hb0.out.trans (h.mono Gj)));have abI:=Z9 (fun w' (h:Below w1.heap.size w1 w')=>Hct.out w' (Hb0.out.trans (h.mono Gj)));have Un:=Z9 Gj;clear HG HM JV Hct gq Gj;go_wp2_with fail
 refine dF (fun w'=>Below w1.heap.size w1 w') [(true,0),(true,1),(true,2),(true,3),(true,4),(true,5),(false,6),(true,7),(true,8),(true,9),(true,10),(true,11)] (by kernel_rfl) (by kernel_rfl) (fun w' hd=>hd.below _) (fun KK aF wd aW=>?_);have hC:=aW.below w1.heap.size;clear aW;refine aA ?_;refine bV (.slice W r.weak.length cw) rfl rfl rfl (fun w' h=>eX rfl ((Um.out w' h).cell 2 _ rfl)) ?_;refine aA ?_;refine bV (.agg #[.int .i64 x.k,.string x.t]) rfl rfl rfl (fun w' h=>gU ((Gl.out w' h).cell 0 _ rfl) ((Gl.out w' h).cell 1 _ rfl)) ?_;refine aA ?_;refine aV rfl (fun K hK=>?_) hC;have Ho:=Z9 (abH.out wd hC);go_wp2_with fail
 refine (Ho.out).mono ?_;rintro e w2 ⟨i,b,rfl,hil,hlo,hhi,hb,hl2⟩;have hC2:=hC.trans (hl2.mono hC.size);have hw:b=true ↔ ∃ f∈r.weak,dA f x=0:=aiU jE.out hlo hhi hb;clear Ho hl2 hil hlo hhi hb hC;go_wp2_with fail
 refine ⟨hC2,?_⟩;refine aA ?_;refine dG ?_;simp only [Exit.then];refine aF _ _ ?_;clear aF KK;have HC2:=Z9 hC2;clear hC2;have hwx:b=true ↔ x∈r.weak:=by
  rw [hw];constructor
  ·rintro ⟨f,hf,h0⟩;rw [← Jr h0];exact hf
  ·exact fun h=>⟨x,h,nS.refl x⟩
 have hsz2:=HC2.out.size;have HG2:Hid (∀ w',Below w2.heap.size w2 w'→LV w' G (kJ r K ck W cw S cs A n c X) 180):=fun w' h=>Um.out w' (HC2.out.trans (h.mono hsz2));have Gm:Hid (∀ w',Below w2.heap.size w2 w'→LV w' Y #[.int .i64 x.k,.string x.t] 46):=fun w' h=>Gl.out w' (HC2.out.trans (h.mono hsz2));have Hlk:Hid (∀ w',Below w2.heap.size w2 w'→(Instr.lookup 178 (.map (some X)) (.agg #[.int .i64 x.k,.string x.t]) false).run Tryz.prog w'=.ok (.slice A' n' c') w'):=fun w' h=>by
  have h1:=tJ (K:=aU) (T:=178) (E:=22) (xw.out w' (HC2.out.trans (h.mono hsz2))) (by kernel_rfl) (abG w') x false;rw [if_neg (by decide),Hx.out] at h1;exact h1
 have OH:=Z9 (fun w' (h:Below w2.heap.size w2 w')=>abI.out w' (HC2.out.trans (h.mono hsz2)));have hkt:r.kinds.take r.kinds.length=r.kinds:=Zp;rw [hkt] at OH;obtain ⟨kc,hkc⟩:∃ kc,r.kinds.contains x.k=kc:=⟨_,rfl⟩;rw [hkc] at OH;have HR2:Hid ((!b && (kc && decide ((n':Int)≤r.most)))=R):=by
  show _=_;have e1:decide (x∈r.weak)=b:=by cases b <;> simp_all
  have e2:decide (x.k∈r.kinds)=kc:=by rw [← hkc];simp
  rw [← HR.out,KF,e1,e2]
 clear Um Gl xw abH abI hw hwx hkt hkc HR jE Hx hsz2 z0 y0;cases b
 ·cases kc
  ·have Hr:Hid (false=R):=HR2.out;clear HR2;go_wp2_with fail
   refine dF (fun w'=>Below w2.heap.size w2 w') [(true,0),(true,1),(true,2),(true,3),(true,4),(true,5),(true,6),(true,7),(true,8),(true,9),(false,10),(true,11),(true,12),(true,13),(true,14),(true,15),(true,16),(true,17),(true,20),(true,21),(true,22),(true,23),(true,24),(false,18),(true,19),(true,25),(true,26),(true,27)] (by kernel_rfl) (by kernel_rfl) (fun w' hd=>hd.below _) (fun KK aF wd aW=>?_);have hC:=aW.below w2.heap.size;clear aW;refine aA ?_;refine bV (.slice K r.kinds.length ck) rfl rfl rfl (fun w' h=>eX rfl ((HG2.out w' h).cell 0 _ rfl)) ?_;refine aA ?_;refine bV (.int .i64 x.k) rfl rfl rfl (fun w' h=>eX rfl ((Gm.out w' h).cell 0 _ rfl)) ?_;refine aA ?_;refine aV rfl (fun K hK=>?_) hC;have Ho:=Z9 (OH.out wd hC);go_wp2_with fail
   refine (Ho.out).mono ?_;rintro e w3 ⟨rfl,rfl⟩;clear Ho;go_wp2_with fail
   refine ⟨hC,?_⟩;refine aA ?_;refine aV rfl (fun K hK=>?_) hC;go_wp2_with fail
   refine ⟨hC,?_⟩;refine aA ?_;refine dG ?_;simp only [Exit.then];refine aF _ _ ?_;clear aF KK;go_wp2_with fail
   go_ret;exact ⟨congrArg (fun b=>Ending.returned (.bool b)) Hr.out,Hb0.out.trans ((HC2.out.trans (hC.mono HC2.out.size)).mono Un.out)⟩
  ·have Hr:Hid (decide ((n':Int)≤r.most)=R):=by show _=_;rw [← HR2.out];rfl
   clear HR2;go_wp2_with fail
   refine dF (fun w'=>Below w2.heap.size w2 w') [(true,0),(true,1),(true,2),(true,3),(true,4),(true,5),(true,6),(true,7),(true,8),(true,9),(false,10),(true,11),(true,12),(true,13),(true,14),(true,15),(true,16),(true,17),(true,20),(true,21),(true,22),(true,23),(true,24),(false,18),(true,19),(true,25),(true,26),(true,27)] (by kernel_rfl) (by kernel_rfl) (fun w' hd=>hd.below _) (fun KK aF wd aW=>?_);have hC:=aW.below w2.heap.size;clear aW;refine aA ?_;refine bV (.slice K r.kinds.length ck) rfl rfl rfl (fun w' h=>eX rfl ((HG2.out w' h).cell 0 _ rfl)) ?_;refine aA ?_;refine bV (.int .i64 x.k) rfl rfl rfl (fun w' h=>eX rfl ((Gm.out w' h).cell 0 _ rfl)) ?_;refine aA ?_;refine aV rfl (fun K hK=>?_) hC;have Ho:=Z9 (OH.out wd hC);go_wp2_with fail
   refine (Ho.out).mono ?_;rintro e w3 ⟨rfl,rfl⟩;clear Ho;go_wp2_with fail
   refine ⟨hC,?_⟩;refine aA ?_;refine bV (.map (some X)) rfl rfl rfl (fun w' h=>eX rfl ((HG2.out w' h).cell 5 _ rfl)) ?_;refine aA ?_;refine bV (.agg #[.int .i64 x.k,.string x.t]) rfl rfl rfl (fun w' h=>gU ((Gm.out w' h).cell 0 _ rfl) ((Gm.out w' h).cell 1 _ rfl)) ?_;refine aA ?_;refine bV (.int .i64 r.most) rfl rfl rfl (fun w' h=>eX rfl ((HG2.out w' h).cell 1 _ rfl)) ?_;refine aA ?_;refine aV rfl (fun K hK=>?_) hC;have hlk:=Hlk.out wd hC;go_wp2_with fail
   refine ⟨hC,?_⟩;clear hlk;refine aA ?_;refine dG ?_;simp only [Exit.then];refine aF _ _ ?_;clear aF KK;go_wp2_with fail
   go_ret;exact ⟨congrArg (fun b=>Ending.returned (.bool b)) Hr.out,Hb0.out.trans ((HC2.out.trans (hC.mono HC2.out.size)).mono Un.out)⟩
 ·have Hr:Hid (false=R):=HR2.out;clear HR2;go_wp2_with fail
  refine dF (fun w'=>Below w2.heap.size w2 w') [(true,0),(true,1),(true,2),(true,3),(true,4),(true,5),(true,6),(true,7),(true,8),(true,9),(false,10),(true,11),(true,12),(true,13),(true,14),(true,15),(true,16),(true,17),(true,20),(true,21),(true,22),(true,23),(true,24),(false,18),(true,19),(true,25),(true,26),(true,27)] (by kernel_rfl) (by kernel_rfl) (fun w' hd=>hd.below _) (fun KK aF wd aW=>?_);have hC:=aW.below w2.heap.size;clear aW;refine aA ?_;refine aV rfl (fun K hK=>?_) hC;go_wp2_with fail
  refine ⟨hC,?_⟩;refine aA ?_;refine aV rfl (fun K hK=>?_) hC;go_wp2_with fail
  refine ⟨hC,?_⟩;refine aA ?_;refine dG ?_;simp only [Exit.then];refine aF _ _ ?_;clear aF KK;go_wp2_with fail
  go_ret;exact ⟨congrArg (fun b=>Ending.returned (.bool b)) Hr.out,Hb0.out.trans ((HC2.out.trans (hC.mono HC2.out.size)).mono Un.out)⟩
end
section
open Go Go.RowKit Go.MapKept
section
variable {κ:Type} [DecidableEq κ]
def Uo (K:gu κ)(w:World)(X:Nat)(L:List (κ×Value))(k:κ)(st:Nat):Prop :=
 ∃ (es:Array MapEntry) (clock j:Nat) (e:MapEntry),w.heap[X]? =some (.map es clock)∧sU K es clock L∧es.toList[j]? =some e∧L[j]? =some (k,e.val)∧e.born=st
def Chunk.ent (K:gu κ)(X:Nat)(L:List (κ×Value))(k:κ)(st:Nat):Chunk :=
 ⟨some X,fun _ w=>Uo K w X L k st,fun h _ hd ⟨es,c,j,e,h1,h2⟩=>⟨es,c,j,e,(h.block X (Array.getElem?_eq_some_iff.1 h1).1 (hd X rfl)).trans h1,h2⟩,fun _ h=>h,fun ⟨_,_,_,_,h,_⟩ k e=>by cases e;exact (Array.getElem?_eq_some_iff.1 h).1⟩
theorem abJ {es:Array MapEntry}{j:Nat}{e:MapEntry}(f:MapEntry→MapEntry)(he:es.toList[j]? =some e):(es.modify j f).toList=es.toList.set j (f e):=by
 rw [Array.toList_modify];apply Zu;intro i;rw [List.getElem?_modify,Zv];by_cases hij:j=i
 ·subst hij;rw [if_pos rfl,he,if_pos (bM he)];simp
 ·rw [if_neg hij];simp [hij]
omit [DecidableEq κ] in
theorem sU.put {K:gu κ}{es es':Array MapEntry}{clock:Nat}{L:List (κ×Value)}(h:sU K es clock L){j:Nat}{e:MapEntry}{k:κ}{u:Value}(he:es.toList[j]? =some e)(hk:L[j]? =some (k,e.val))(hes:es'.toList=es.toList.set j { e with key:=K.kv k,val:=u }):sU K es' clock (L.set j (k,u)):=by
 refine ⟨?_,?_,fun x hx=>?_,?_⟩
 ·rw [hes,Zg,h.kv,Zg]
 ·rw [Zg];have:(L.map Zw).set j k=L.map Zw:=by
   apply Zu;intro i;rw [Zv];by_cases e3:j=i
   ·subst e3;have hj:=bM hk;rw [if_pos rfl,ZT,hk,if_pos (by rw [ZW];exact hj)];rfl
   ·rw [if_neg e3]
  rw [this];exact h.nd
 ·rw [hes] at hx;rcases List.mem_or_eq_of_mem_set hx with hx | rfl
  ·exact h.lt x hx
  ·exact h.lt e (Z7 he)
 ·rw [hes,Zg];have:(es.toList.map MapEntry.born).set j e.born=es.toList.map MapEntry.born:=by
   apply Zu;intro i;rw [Zv];by_cases hij:j=i
   ·subst hij;have hj:=bM he;rw [if_pos rfl,ZT,he,if_pos (by rw [ZW];exact hj)];rfl
   ·rw [if_neg hij]
  rw [this];exact h.bn
theorem aiX {K:gu κ}{w:World}{X:Nat}{L:List (κ×Value)}{T E:TypeId}(h:mO K w X L)(hT:Tryz.prog.underlying T=some (.map K.ty E)){z:Value}(hz:(zeroValue E).run Tryz.prog w=.ok z w)(k:κ) :
  ∃ w' st,(Instr.mapEntry T (.map (some X)) (K.kv k)).run Tryz.prog w=.ok (.tuple #[(aT k L).getD z,.int .i64 (st:Nat)]) w'∧Uo K w' X (bI k ((aT k L).getD z) L) k st∧w.grownBy w' (some X):=by
 obtain ⟨es,clock,hb,he⟩:=h;have hck:=K.chk false k w;have gr:∀ o,w.grownBy { w with heap:=w.heap.setIfInBounds X o } (some X):=fun o=>⟨rfl,rfl,rfl,by simp,fun j hj hne=>(heap_set hb).2 j (fun e=>hne (by rw [e]))⟩;obtain ⟨r,hr,hc⟩:=K.find k es.toList (L.map Zw) w he.keys;rcases hc with ⟨h4,rfl⟩ | ⟨j,e,h4,h5,rfl⟩
 ·have hg:=qY.2 h4;refine ⟨{ w with heap:=w.heap.setIfInBounds X (.map (es.push ⟨K.kv k,z,clock⟩) (clock + 1)) },clock,?_,⟨_,_,es.size,⟨K.kv k,z,clock⟩,(heap_set hb).1,?_,?_,?_,rfl⟩,gr _⟩
  ·simp [Instr.mapEntry,run_underlying hT,Go.MapKept.run_getObj_map hb,hck,hr,hz,hg,run_setObj_map _ hb,Result.andThen,goInt]
  ·rw [hg,Option.getD_none];refine ⟨?_,KC he.nd,fun x hx=>?_,?_⟩
   ·rw [YT,ZP,he.kv,vU h4,ZP];rfl
   ·rw [YT,List.mem_append] at hx;rcases hx with hx | hx
    ·have:=he.lt x hx;omega
    ·rw [List.mem_singleton.1 hx];exact Nat.lt_succ_self _
   ·rw [YT,ZP,List.nodup_append];refine ⟨he.bn,by simp,fun a ha b hb'=>?_⟩;obtain ⟨x,hx,rfl⟩:=List.mem_map.1 ha;have h6:=he.lt x hx;simp at hb';omega
  ·rw [YT,ZF (by simp)];simp
  ·rw [hg,Option.getD_none,vU h4];have hl:L.length=es.size:=by
    have:=congrArg Zf he.kv
    simpa using this.symm
   rw [ZF (by omega),hl,Nat.sub_self];rfl
 ·obtain ⟨a1,a2⟩:=he.at' h4 h5;have h3':es[j]? =some e:=by rw [← YQ];exact h4
  have hs:=K.same k;have hg:=(kR he.nd a1).1;have hm:=abJ (fun e=>{ e with key:=K.kv k }) h4;have heq:({ e with key:=K.kv k }:MapEntry)={ e with key:=K.kv k,val:=e.val }:=rfl;refine ⟨{ w with heap:=w.heap.setIfInBounds X (.map (es.modify j fun e=>{ e with key:=K.kv k }) clock) },e.born,?_,⟨_,_,j,{ e with key:=K.kv k },(heap_set hb).1,?_,?_,?_,rfl⟩,gr _⟩
  ·simp [Instr.mapEntry,run_underlying hT,Go.MapKept.run_getObj_map hb,hck,hr,hg,run_setObj_map _ hb,Result.andThen,h3',a2,Instr.keyThatStays,hs,goInt]
  ·rw [hg,Option.getD_some,(kR he.nd a1).2 e.val];exact he.put h4 a1 (by rw [hm])
  ·rw [hm,ZY (bM h4)]
  ·rw [hg,Option.getD_some,(kR he.nd a1).2 e.val,ZY (bM a1)]
theorem aiY {K:gu κ}{w:World}{X:Nat}{L:List (κ×Value)}{k:κ}{st:Nat}(h:Uo K w X L k st)(T:TypeId)(u:Value) :
  ∃ w',(Instr.entryStore T (.map (some X)) (.int .i64 (st:Nat)) u).run Tryz.prog w=.ok () w'∧mO K w' X (bI k u L)∧w.grownBy w' (some X):=by
 obtain ⟨es,clock,j,e,hb,he,h4,h5,rfl⟩:=h;have gr:∀ o,w.grownBy { w with heap:=w.heap.setIfInBounds X o } (some X):=fun o=>⟨rfl,rfl,rfl,by simp,fun j hj hne=>(heap_set hb).2 j (fun e=>hne (by rw [e]))⟩;have hfi:es.findIdx? (fun x=>(x.born:Int)==(e.born:Int))=some j:=by
  rw [show es.findIdx? (fun x=>(x.born:Int)==(e.born:Int))=es.toList.findIdx? (fun x=>(x.born:Int)==(e.born:Int)) by rw [← List.findIdx?_toArray],List.findIdx?_eq_some_iff_getElem];obtain ⟨hj,hje⟩:=List.getElem?_eq_some_iff.1 h4;refine ⟨hj,by rw [hje];simp,fun i hij=>?_⟩;simp only [beq_iff_eq,Int.natCast_inj];intro h6;have hn:=List.pairwise_iff_getElem.1 he.bn i j (by rw [ZW];omega) (by rw [ZW];exact hj) hij;apply hn;rw [List.getElem_map,List.getElem_map,hje];exact h6
 have hk:e.key=K.kv k:=by
  have h1:=congrArg (fun l=>l[j]?) he.kv;simp only [ZT,h4,h5,Zx,Option.some.injEq,Prod.mk.injEq] at h1;exact h1.1
 have hm:=abJ (fun e=>{ e with val:=u }) h4;refine ⟨{ w with heap:=w.heap.setIfInBounds X (.map (es.modify j fun e=>{ e with val:=u }) clock) },?_,⟨_,_,(heap_set hb).1,?_⟩,gr _⟩
 ·have ha:∀ (i:Int) (w:World),(asInt (.int .i64 i)).run Tryz.prog w=.ok i w:=fun _ _=>rfl;simp [Instr.entryStore,Go.MapKept.run_getObj_map hb,ha,hfi,run_setObj_map _ hb,Result.andThen]
 ·rw [(kR he.nd h5).2 u];refine he.put h4 h5 ?_;rw [hm,← hk]
end
section
variable {κ:Type} [DecidableEq κ] {w0 w:World} {cs:List Chunk} {ops:Array Oper} {rest:List Oper} {o:Oper} {a:Act} {Q:Exit→Act→World→Prop}
theorem Mem.JI {K:gu κ}(S:Mem w0 w cs)(i:Nat){X:Nat}{L:List (κ×Value)}(hi:cs[i]? =some (.aJ K X L)){T E:TypeId}(hT:Tryz.prog.underlying T=some (.map K.ty E)){z:Value}(hz:∀ w,(zeroValue E).run Tryz.prog w=.ok z w)
  (hgd:o.guard=none) (m x:Operand) (hop:o.op=.mapEntry T m x) (hm:a.eval m=.map (some X)) (y:κ) (hx:a.eval x=K.kv y)
  (h:∀ (st:Nat) w',Mem w0 w' (cs.set i (.ent K X (bI y ((aT y L).getD z) L) y st))→w.heap.size≤w'.heap.size→wpList Tryz.prog ops Q rest (a.put o.dst (.tuple #[(aT y L).getD z,.int .i64 (st:Nat)])) w'):wpList Tryz.prog ops Q (o::rest) a w:=by
 obtain ⟨w',st,hrun,hm',hgr⟩:=aiX (S.ok _ (Z7 hi)) hT (hz w) y;have hX:=S.new _ (Z7 hi) X rfl;have hbl:Below w0.heap.size w w':=(ZX _ w).grown hgr S.b.size (fun k hk=>by cases hk;exact hX);have S2:=S.upd i hi (.ent K X (bI y ((aT y L).getD z) L) y st) ⟨hgr.size,fun k hk hn=>hgr.block k hk (fun e=>hn e.symm)⟩ (S.b.trans hbl) (fun k e=>.inl e) hm';refine wpList_plain hgd fun K' hK'=>?_;unfold Oper.wp;simp [execOp,hop,hm,hx,hrun,Result.andThen];exact hK' _ _ (h st w' S2 hgr.size)
theorem Mem.JJ {K:gu κ}(S:Mem w0 w cs)(i:Nat){X:Nat}{L:List (κ×Value)}{y:κ}{st:Nat}(hi:cs[i]? =some (.ent K X L y st)){T:TypeId}
  (hgd:o.guard=none) (m x v:Operand) (hop:o.op=.entryStore T m x v) (hm:a.eval m=.map (some X)) (hx:a.eval x=.int .i64 (st:Nat)) (u:Value) (hv:a.eval v=u)
  (h:∀ w',Mem w0 w' (cs.set i (.aJ K X (bI y u L)))→wpList Tryz.prog ops Q rest (a.put o.dst undef) w'):wpList Tryz.prog ops Q (o::rest) a w:=by
 obtain ⟨w',hrun,hm',hgr⟩:=aiY (S.ok _ (Z7 hi)) T u;have hX:=S.new _ (Z7 hi) X rfl;have hbl:Below w0.heap.size w w':=(ZX _ w).grown hgr S.b.size (fun k hk=>by cases hk;exact hX);have S2:=S.upd i hi (.aJ K X (bI y u L)) ⟨hgr.size,fun k hk hn=>hgr.block k hk (fun e=>hn e.symm)⟩ (S.b.trans hbl) (fun k e=>.inl e) hm';refine wpList_plain hgd fun K' hK'=>?_;unfold Oper.wp;simp [execOp,hop,hm,hx,hv,hrun,Result.andThen];exact hK' _ _ (h w' S2)
end
end
section
open Go Go.RowKit
theorem aiZ (qs:List HQ)(hn:(qs.map HQ.x).Nodup)(x:ah):∃ (aI:List HQ) (j:Nat) (q:HQ),aI[j]? =some q∧q.x=x∧(aI.map HQ.x).Nodup∧(aT x (qs.map HQ.kv)).getD (.slice none 0 0)=q.v∧bI x q.v (qs.map HQ.kv)=aI.map HQ.kv ∧
  (aT x (qs.map HQ.kl)).getD []=q.js∧(∀ u,bI x u (qs.map HQ.kl)=bI x u (aI.map HQ.kl))∧∀ (B:Nat) (w0 w:World) (cs:List Chunk),Mem w0 w (cs++qs.map (hq B))→Mem w0 w (cs++aI.map (hq B)):=by
 rcases abB qs hn x with ⟨h1,h2,h3⟩ | ⟨j,q,h1,h2,h3,h4⟩
 ·have hn1:((qs++[(⟨x,none,0,[]⟩:HQ)]).map HQ.x).Nodup:=by
   rw [ZP,List.nodup_append];refine ⟨hn,by simp,fun a ha b hb e=>?_⟩;simp only [Zt,List.map_nil,YB] at hb;subst hb;subst e;exact h1 ha
  have hj:(qs++[(⟨x,none,0,[]⟩:HQ)])[qs.length]? =some ⟨x,none,0,[]⟩:=by simp
  refine ⟨qs++[⟨x,none,0,[]⟩],qs.length,⟨x,none,0,[]⟩,hj,rfl,hn1,by rw [h2];rfl,(abC (q:=⟨x,none,0,[]⟩) h1).1,by rw [h3];rfl,fun u=>?_,fun B w0 w cs S=>?_⟩
  ·have e1:=(abC (q:=⟨x,none,0,u⟩) h1).2;have e2:=(Uk (q':=⟨x,none,0,u⟩) hn1 hj rfl).2;rw [show (qs++[(⟨x,none,0,[]⟩:HQ)]).set qs.length ⟨x,none,0,u⟩=qs++[⟨x,none,0,u⟩] by rw [YZ _ _ (Z5 _)];simp] at e2;exact e1.trans e2.symm
  ·have S1:=S.nil ay B 3;rw [ZM] at S1;rw [ZP];exact S1
 ·subst h2;refine ⟨qs,j,q,h1,rfl,hn,by rw [h3];rfl,?_,by rw [h4];rfl,fun u=>rfl,fun _ _ _ _ S=>S⟩;rw [(Uk hn h1 rfl).1];congr 1
  apply Zu;intro i;rw [Zv];by_cases e:j=i
  ·subst e;rw [if_pos rfl,if_pos (bM h1),h1]
  ·rw [if_neg e]
theorem ai0 {qs aI:List HQ}{j:Nat}{q:HQ}{x:ah}(hj:aI[j]? =some q)(hx:q.x=x)(hn:(aI.map HQ.x).Nodup)(h1:(aT x (qs.map HQ.kl)).getD []=q.js)(h2:∀ u,bI x u (qs.map HQ.kl)=bI x u (aI.map HQ.kl))(A:Option Addr)(c i:Nat) :
  bI x (HQ.v ⟨q.x,A,c,q.js++[i]⟩) (aI.map HQ.kv)=(aI.set j ⟨q.x,A,c,q.js++[i]⟩).map HQ.kv∧uh (qs.map HQ.kl) i x=(aI.set j ⟨q.x,A,c,q.js++[i]⟩).map HQ.kl:=by
 subst hx;have h:=Uk (q':=⟨q.x,A,c,q.js++[i]⟩) hn hj rfl;exact ⟨h.1,by unfold uh;rw [h1,h2];exact h.2⟩
end
end Go.Proofs.YtmkkppknaikjjaaGreatDoor
