/- Several texts in one: PartLaw, MapG, KeyId, PsnLaw, HavMem, FindR, BsC, Joins, MapEnt, HavAdd. -/
import Derived.Test.YtmkkppknaikjjaaGreatDoorPixW
import Derived.Test.YtmkkppknaikjjaaGreatDoorPixB
import Derived.Maps.OwnOps
import Derived.Maps.RangeRun
import Derived.Carry
import Derived.WideKeyRuns
import Derived.Test.YtmkkppknaikjjaaGreatDoorPixR
import Derived.Test.YtmkkppknaikjjaaGreatDoorPixC
import Derived.Test.YtmkkppknaikjjaaGreatDoorPixK
import Derived.RegionTactic
import Derived.Deep.DeepCutAuto
import Derived.Test.YtmkkppknaikjjaaGreatDoorPixQ
/- The plain law of parts: what hangs together, told by the first place of each part; roots that lead to it, and labels that fall until they stand. -/
namespace Go.Proofs.YtmkkppknaikjjaaGreatDoor
section
inductive Conn (n:Nat) (R:Nat→Nat→Prop):Nat→Nat→Prop
 | refl (i:Nat):Conn n R i i
 | step {i j k:Nat}:Conn n R i j→j < n→k < n→R j k→Conn n R i k
theorem Conn.trans {n:Nat}{R:Nat→Nat→Prop}{i j k:Nat}(h:Conn n R i j)(g:Conn n R j k):Conn n R i k:=by
 induction g with
 | refl=>exact h
 | step _ h1 h2 h3 ih=>exact .step ih h1 h2 h3
theorem Conn.one {n:Nat}{R:Nat→Nat→Prop}{i j:Nat}(hi:i < n)(hj:j < n)(h:R i j):Conn n R i j:=.step (.refl i) hi hj h
theorem Conn.symm {n:Nat}{R:Nat→Nat→Prop}(hs:∀ a b,R a b→R b a){i j:Nat}(h:Conn n R i j):Conn n R j i:=by
 induction h with
 | refl=>exact .refl _
 | step _ h1 h2 h3 ih=>exact (Conn.one h2 h1 (hs _ _ h3)).trans ih
structure IsPart (n:Nat) (R:Nat→Nat→Prop) (c:Nat→Nat):Prop where
 le:∀ i,i < n→c i≤i
 edge:∀ i j,i < n→j < n→R i j→c i=c j
 conn:∀ i,i < n→Conn n R i (c i)
theorem IsPart.const {n:Nat}{R:Nat→Nat→Prop}{c:Nat→Nat}(h:IsPart n R c){i j:Nat}(g:Conn n R i j):c i=c j:=by
 induction g with
 | refl=>rfl
 | step _ h1 h2 h3 ih=>exact ih.trans (h.edge _ _ h1 h2 h3)
theorem IsPart.low {n:Nat}{R:Nat→Nat→Prop}{c d:Nat→Nat}(h:IsPart n R c)(g:IsPart n R d){i:Nat}(hi:i < n):c i≤d i:=by
 have h1:=h.const (g.conn i hi);have h2:=h.le (d i) (Nat.lt_of_le_of_lt (g.le i hi) hi);omega
theorem IsPart.uniq {n:Nat}{R:Nat→Nat→Prop}{c d:Nat→Nat}(h:IsPart n R c)(g:IsPart n R d){i:Nat}(hi:i < n):c i=d i:=Nat.le_antisymm (h.low g hi) (g.low h hi)
theorem IsPart.fix {n:Nat}{R:Nat→Nat→Prop}{c:Nat→Nat}(h:IsPart n R c){i:Nat}(hi:i < n):c (c i)=c i:=(h.const (h.conn i hi)).symm
structure Labs (n:Nat) (R:Nat→Nat→Prop) (c:Nat→Nat):Prop where
 le:∀ i,i < n→c i≤i
 fix:∀ i,i < n→c (c i)=c i
 conn:∀ i,i < n→Conn n R i (c i)
theorem Labs.start (n:Nat)(R:Nat→Nat→Prop):Labs n R id:=⟨fun _ _=>Nat.le_refl _,fun _ _=>rfl,fun i _=>.refl i⟩
theorem Labs.part {n:Nat}{R:Nat→Nat→Prop}{c:Nat→Nat}(h:Labs n R c)(he:∀ i j,i < n→j < n→R i j→c i=c j):IsPart n R c:=⟨h.le,he,h.conn⟩
def joinC (a b:Nat)(c:Nat→Nat)(i:Nat):Nat:=if c i=max a b then min a b else c i
theorem joinC_keep {a b:Nat}{c:Nat→Nat}{i j:Nat}(h:c i=c j):joinC a b c i=joinC a b c j:=by unfold joinC;rw [h]
theorem joinC_new {c:Nat→Nat}{i j:Nat}:joinC (c i) (c j) c i=joinC (c i) (c j) c j:=by
 unfold joinC;rcases Nat.le_total (c i) (c j) with h | h
 ·rw [Nat.max_eq_right h,Nat.min_eq_left h,if_pos (rfl:c j=c j)];by_cases e:c i=c j
  ·rw [if_pos e]
  ·rw [if_neg e]
 ·rw [Nat.max_eq_left h,Nat.min_eq_right h,if_pos (rfl:c i=c i)];by_cases e:c j=c i
  ·rw [if_pos e]
  ·rw [if_neg e]
theorem Labs.join {n:Nat}{R:Nat→Nat→Prop}{c:Nat→Nat}(h:Labs n R c)(hs:∀ a b,R a b→R b a){i j:Nat}(hi:i < n)(hj:j < n)(hij:R i j):Labs n R (joinC (c i) (c j) c):=by
 have li:=h.le i hi;have lj:=h.le j hj;have fi:=h.fix i hi;have fj:=h.fix j hj;have ci:=h.conn i hi;have cj:=h.conn j hj;have cij:Conn n R (c i) (c j):=((ci.symm hs).trans (.one hi hj hij)).trans cj;refine ⟨fun k hk=>?_,fun k hk=>?_,fun k hk=>?_⟩
 ·have:=h.le k hk
  unfold joinC;split <;> omega
 ·have hf:=h.fix k hk;unfold joinC;by_cases e:c k=max (c i) (c j)
  ·rw [if_pos e];rcases Nat.le_total (c i) (c j) with h1 | h1
   ·rw [Nat.min_eq_left h1,Nat.max_eq_right h1,fi];split <;> rfl
   ·rw [Nat.min_eq_right h1,Nat.max_eq_left h1,fj];split <;> rfl
  ·rw [if_neg e,hf,if_neg e]
 ·have hc:=h.conn k hk;unfold joinC;by_cases e:c k=max (c i) (c j)
  ·rw [if_pos e];rcases Nat.le_total (c i) (c j) with h1 | h1
   ·rw [Nat.min_eq_left h1];rw [Nat.max_eq_right h1] at e;rw [e] at hc;exact hc.trans (cij.symm hs)
   ·rw [Nat.min_eq_right h1];rw [Nat.max_eq_left h1] at e;rw [e] at hc;exact hc.trans cij
  ·rw [if_neg e];exact hc
structure Roots (n:Nat) (p:List Nat) (c:Nat→Nat):Prop where
 len:p.length=n
 at':∀ (i q:Nat),p[i]? =some q→q≤i∧c q=c i∧(q=i→c i=i)
theorem Roots.start (n:Nat):Roots n (List.range n) id:=⟨by simp,fun i q h=>by
 rw [List.getElem?_eq_some_iff] at h;obtain ⟨h1,h2⟩:=h;simp at h2;subst h2;exact ⟨Nat.le_refl _,rfl,fun _=>rfl⟩⟩
theorem Roots.halve {n:Nat}{p:List Nat}{c:Nat→Nat}(h:Roots n p c){i q r:Nat}(hq:p[i]? =some q)(hr:p[q]? =some r):Roots n (p.set i r) c:=by
 obtain ⟨a1,a2,a3⟩:=h.at' i q hq;obtain ⟨b1,b2,b3⟩:=h.at' q r hr;refine ⟨by rw [List.length_set];exact h.len,fun k s hk=>?_⟩;rw [List.getElem?_set] at hk;by_cases e:i=k
 ·subst e;rw [if_pos rfl] at hk;split at hk
  ·obtain rfl:r=s:=by simpa using hk
   exact ⟨by omega,by rw [b2,a2],fun e=>a3 (by omega)⟩
  ·cases hk
 ·rw [if_neg e] at hk;exact h.at' k s hk
theorem Roots.root {n:Nat}{p:List Nat}{c:Nat→Nat}(h:Roots n p c){i:Nat}(hq:p[i]? =some i):c i=i:=(h.at' i i hq).2.2 rfl
theorem Roots.join {n:Nat}{p:List Nat}{c:Nat→Nat}(h:Roots n p c){i j:Nat}(fi:c (c i)=c i)(fj:c (c j)=c j):Roots n (p.set (max (c i) (c j)) (min (c i) (c j))) (joinC (c i) (c j) c):=by
 refine ⟨by rw [List.length_set];exact h.len,fun k s hk=>?_⟩;rw [List.getElem?_set] at hk;by_cases e:max (c i) (c j)=k
 ·subst e;rw [if_pos rfl] at hk;split at hk
  ·obtain rfl:min (c i) (c j)=s:=by simpa using hk
   unfold joinC;rcases Nat.le_total (c i) (c j) with h1 | h1
   ·rw [Nat.max_eq_right h1,Nat.min_eq_left h1,fi,fj,if_pos rfl];refine ⟨h1,?_,fun e=>e⟩;split <;> rfl
   ·rw [Nat.max_eq_left h1,Nat.min_eq_right h1,fi,fj,if_pos rfl];refine ⟨h1,?_,fun e=>e⟩;split <;> rfl
  ·cases hk
 ·rw [if_neg e] at hk;obtain ⟨a1,a2,a3⟩:=h.at' k s hk;refine ⟨a1,joinC_keep a2,fun e2=>?_⟩;unfold joinC;rw [a3 e2,if_neg (fun e3=>e e3.symm)]
structure Stand (n:Nat) (R:Nat→Nat→Prop) (p:List Nat):Prop where
 len:p.length=n
 le:∀ (i q:Nat),p[i]? =some q→q≤i
 conn:∀ (i q:Nat),p[i]? =some q→Conn n R i q
theorem Stand.start (n:Nat)(R:Nat→Nat→Prop):Stand n R (List.range n):=⟨by simp,fun i q h=>by
 rw [List.getElem?_eq_some_iff] at h;obtain ⟨h1,h2⟩:=h;simp at h2;omega,fun i q h=>by
 rw [List.getElem?_eq_some_iff] at h;obtain ⟨h1,h2⟩:=h;simp at h2;subst h2;exact .refl _⟩
theorem Stand.set {n:Nat}{R:Nat→Nat→Prop}{p:List Nat}(h:Stand n R p){i q:Nat}(hle:q≤i)(hc:Conn n R i q):Stand n R (p.set i q):=by
 refine ⟨by rw [List.length_set];exact h.len,fun k s hk=>?_,fun k s hk=>?_⟩
 ·rw [List.getElem?_set] at hk;by_cases e:i=k
  ·subst e;rw [if_pos rfl] at hk;split at hk
   ·obtain rfl:q=s:=by simpa using hk
    exact hle
   ·cases hk
  ·rw [if_neg e] at hk;exact h.le k s hk
 ·rw [List.getElem?_set] at hk;by_cases e:i=k
  ·subst e;rw [if_pos rfl] at hk;split at hk
   ·obtain rfl:q=s:=by simpa using hk
    exact hc
   ·cases hk
  ·rw [if_neg e] at hk;exact h.conn k s hk
def labOf (p:List Nat)(i:Nat):Nat:=p.getD i 0
theorem Stand.part {n:Nat}{R:Nat→Nat→Prop}{p:List Nat}(h:Stand n R p)(he:∀ i j,i < n→j < n→R i j→labOf p i=labOf p j):IsPart n R (labOf p):=by
 have hg:∀ i,i < n→p[i]? =some (labOf p i):=fun i hi=>by
  unfold labOf;rw [List.getD_eq_getElem?_getD,List.getElem?_eq_getElem (by rw [h.len];exact hi)];rfl
 exact ⟨fun i hi=>h.le i _ (hg i hi),he,fun i hi=>h.conn i _ (hg i hi)⟩
def rowC (n:Nat)(c:Nat→Nat):List Nat:=(List.range n).map c
theorem rowC_at {n:Nat}{c:Nat→Nat}{i:Nat}(hi:i < n):(rowC n c)[i]? =some (c i):=by unfold rowC;simp [hi]
theorem rowC_len (n:Nat)(c:Nat→Nat):(rowC n c).length=n:=by simp [rowC]
end
section
open Go Go.RowKit Go.MapKept
structure KeyL (κ:Type) where
 kv:κ→Value
 ty:TypeId
 chk:∀ (b:Bool) (x:κ) (w:World),(Instr.checkKey b 10000 ty (kv x)).run Tryz.prog w=.ok () w
 find:∀ (x:κ) (es:List MapEntry) (L:List κ) (w:World),es.map MapEntry.key=L.map kv→∃ r,(Instr.findKey ty (kv x) es).run Tryz.prog w=.ok r w∧((x ∉ L∧r=none)∨∃ j e,es[j]? =some e∧L[j]? =some x∧r=some (j,e.val))
 same:∀ x,Instr.sameBits 10000 (kv x) (kv x)=true
def KeyL.basic {κ:Type}(ty:TypeId)(d:TypeDesc)(hd:Tryz.prog.underlying ty=some d)(kv:κ→Value)(inj:∀ x y,kv x=kv y→x=y)(hk:∀ x,IsKey d (kv x))(same:∀ x,Instr.sameBits 10000 (kv x) (kv x)=true):KeyL κ where
 kv:=kv
 ty:=ty
 chk b x w:=run_checkKey hd (hk x) b 9999
 same:=same
 find x es L w h:=by
  have hl:∀ e∈es,∃ y∈L,e.key=kv y:=fun e he=>by
   have:e.key∈L.map kv:=by rw [← h];exact List.mem_map_of_mem he
   obtain ⟨y,hy,e2⟩:=List.mem_map.1 this;exact ⟨y,hy,e2.symm⟩
  rcases findNow_spec (hk x) es 0 (fun e he=>by obtain ⟨y,_,e2⟩:=hl e he;rw [e2];exact hk y) with ⟨h1,h2⟩ | ⟨j,e,h1,h2,h3⟩
  ·refine ⟨none,run_findKey hd h1,.inl ⟨fun hx=>?_,rfl⟩⟩;have:kv x∈es.map MapEntry.key:=by rw [h];exact List.mem_map_of_mem hx
   obtain ⟨e,he,e2⟩:=List.mem_map.1 this;exact h2 e he e2
  ·rw [Nat.zero_add] at h1;refine ⟨some (j,e.val),run_findKey hd h1,.inr ⟨j,e,h2,?_,rfl⟩⟩;have h4:=congrArg (fun l=>l[j]?) h;simp only [List.getElem?_map,h2,Option.map_some] at h4;cases hj:L[j]? with
   | none=>rw [hj] at h4;cases h4
   | some y =>
    rw [hj] at h4;simp only [Option.map_some,Option.some.injEq] at h4;rw [inj y x (by rw [← h4,h3])]
def keyInt:KeyL Int:=.basic 3 (.int .i64) Tryz.underlying3 (fun n=>.int .i64 n) (fun x y h=>by simpa using h) (fun x=>by simp [IsKey]) (fun x=>by simp [Instr.sameBits])
section
variable {κ:Type} [DecidableEq κ] {β:Type}
def updG (k:κ)(v:β):List (κ×β)→List (κ×β)
 | []=>[(k,v)]
 | p::r=>if p.1=k then (k,v)::r else p::updG k v r
def getG (k:κ):List (κ×β)→Option β
 | []=>none
 | p::r=>if p.1=k then some p.2 else getG k r
theorem getG_upd (k k':κ)(v:β):∀ L,getG k' (updG k v L)=if k'=k then some v else getG k' L
 | []=>by simp only [updG,getG];by_cases h:k=k' <;> simp [h,eq_comm]
 | p::r=>by
  rw [updG];split
  ·rename_i h;rw [getG,getG,h];by_cases h2:k=k' <;> simp [h2,eq_comm]
  ·rename_i h;rw [getG,getG,getG_upd k k' v r];by_cases h2:p.1=k'
   ·rw [if_pos h2,if_neg (fun e=>h (h2.trans e)),if_pos h2]
   ·rw [if_neg h2,if_neg h2]
theorem getG_none {k:κ}:∀ {L:List (κ×β)},getG k L=none ↔ k ∉ L.map Prod.fst
 | []=>by simp [getG]
 | p::r=>by
  rw [getG,List.map_cons,List.mem_cons,not_or];by_cases h:p.1=k
  ·simp [h]
  ·rw [if_neg h,getG_none];exact ⟨fun e=>⟨fun e2=>h e2.symm,e⟩,fun e=>e.2⟩
theorem getG_mem {k:κ}{v:β}:∀ {L:List (κ×β)},getG k L=some v→(k,v)∈L
 | [],h=>by simp [getG] at h
 | p::r,h=>by
  rw [getG] at h;by_cases e:p.1=k
  ·rw [if_pos e] at h;obtain rfl:p.2=v:=by simpa using h
   rw [← e];exact List.mem_cons_self
  ·rw [if_neg e] at h;exact List.mem_cons_of_mem _ (getG_mem h)
theorem updG_new {k:κ}{v:β}:∀ {L:List (κ×β)},k ∉ L.map Prod.fst→updG k v L=L++[(k,v)]
 | [],_=>rfl
 | p::r,h=>by
  rw [List.map_cons,List.mem_cons,not_or] at h;rw [updG,if_neg (fun e=>h.1 e.symm),updG_new h.2];rfl
theorem getG_at {k:κ}{v:β}:∀ {L:List (κ×β)} {j:Nat},(L.map Prod.fst).Nodup→L[j]? =some (k,v)→getG k L=some v∧∀ u,updG k u L=L.set j (k,u)
 | [],j,_,h=>by simp at h
 | p::r,0,_,h=>by
  obtain rfl:p=(k,v):=by simpa using h
  exact ⟨by simp [getG],fun u=>by simp [updG]⟩
 | p::r,j + 1,hn,h=>by
  have h2:r[j]? =some (k,v):=by simpa using h
  rw [List.map_cons,List.nodup_cons] at hn;have hne:¬ p.1=k:=fun e=>hn.1 (by rw [e];exact List.mem_map.2 ⟨(k,v),List.mem_of_getElem? h2,rfl⟩);obtain ⟨a1,a2⟩:=getG_at hn.2 h2;exact ⟨by rw [getG,if_neg hne];exact a1,fun u=>by rw [updG,if_neg hne,a2 u];rfl⟩
theorem updG_keys {k:κ}{v:β}{L:List (κ×β)}(hn:(L.map Prod.fst).Nodup):((updG k v L).map Prod.fst).Nodup:=by
 by_cases h:k∈L.map Prod.fst
 ·obtain ⟨p,hp,e⟩:=List.mem_map.1 h;obtain ⟨j,hj,e2⟩:=List.getElem_of_mem hp;have hj2:L[j]? =some (k,p.2):=by rw [List.getElem?_eq_getElem hj,e2,← e]
  rw [(getG_at hn hj2).2 v,List.map_set];have:(L.map Prod.fst).set j k=L.map Prod.fst:=by
   apply List.ext_getElem?;intro i;rw [List.getElem?_set];by_cases e3:j=i
   ·subst e3;rw [if_pos rfl,List.getElem?_map,hj2];simp [hj]
   ·rw [if_neg e3]
  rw [this];exact hn
 ·rw [updG_new h,List.map_append,List.nodup_append];refine ⟨hn,by simp,fun a ha b hb=>?_⟩;simp at hb;subst hb;exact fun e=>h (e ▸ ha)
end
section
variable {κ:Type}
abbrev kvG (e:MapEntry):Value×Value:=(e.key,e.val)
abbrev kvP (K:KeyL κ)(p:κ×Value):Value×Value:=(K.kv p.1,p.2)
structure EsOk (K:KeyL κ) (es:Array MapEntry) (clock:Nat) (L:List (κ×Value)):Prop where
 kv:es.toList.map kvG=L.map (kvP K)
 nd:(L.map Prod.fst).Nodup
 lt:∀ e∈es.toList,e.born < clock
 bn:(es.toList.map MapEntry.born).Nodup
def MapG (K:KeyL κ)(w:World)(X:Nat)(L:List (κ×Value)):Prop:=∃ es clock,w.heap[X]? =some (.map es clock)∧EsOk K es clock L
def Chunk.mapG (K:KeyL κ)(X:Nat)(L:List (κ×Value)):Chunk :=
 ⟨some X,fun _ w=>MapG K w X L,fun k _ hd ⟨es,c,h,e⟩=>⟨es,c,(k.block X (Array.getElem?_eq_some_iff.1 h).1 (hd X rfl)).trans h,e⟩,fun _ h=>h,fun ⟨_,_,h,_⟩ k e=>by cases e;exact (Array.getElem?_eq_some_iff.1 h).1⟩
def Chunk.mapE (X:Nat)(es:Array MapEntry)(clock:Nat):Chunk :=
 ⟨none,fun M w=>¬ M X∧w.heap[X]? =some (.map es clock),fun k hd _ ⟨h1,h2⟩=>⟨h1,(k.block X (Array.getElem?_eq_some_iff.1 h2).1 (fun e=>h1 (hd X e))).trans h2⟩,
  fun hm ⟨h1,h2⟩=>⟨fun e=>h1 ((hm X (Array.getElem?_eq_some_iff.1 h2).1 e).resolve_right (by simp)),h2⟩,fun _ _ e=>by cases e⟩
def Chunk.iter (R X:Nat)(since:Nat)(seen:Array Nat)(c0:Nat):Chunk :=
 ⟨some R,fun _ w=>w.heap[R]? =some (.mapIter (some X) since seen c0),fun k _ hd h=>(k.block R (Array.getElem?_eq_some_iff.1 h).1 (hd R rfl)).trans h,fun _ h=>h,fun h k e=>by cases e;exact (Array.getElem?_eq_some_iff.1 h).1⟩
theorem EsOk.keys {K:KeyL κ}{es:Array MapEntry}{clock:Nat}{L:List (κ×Value)}(h:EsOk K es clock L):es.toList.map MapEntry.key=(L.map Prod.fst).map K.kv:=by
 have:=congrArg (List.map Prod.fst) h.kv
 simpa [Function.comp_def] using this
theorem EsOk.at' {K:KeyL κ}{es:Array MapEntry}{clock:Nat}{L:List (κ×Value)}(h:EsOk K es clock L){j:Nat}{e:MapEntry}{k:κ}(he:es.toList[j]? =some e)(hk:(L.map Prod.fst)[j]? =some k):L[j]? =some (k,e.val)∧e.key=K.kv k:=by
 have h1:=congrArg (fun l=>l[j]?) h.kv;simp only [List.getElem?_map,he,Option.map_some] at h1;rw [List.getElem?_map] at hk;cases hj:L[j]? with
 | none=>rw [hj] at h1;cases h1
 | some p =>
  rw [hj] at h1 hk;simp only [Option.map_some,Option.some.injEq,Prod.mk.injEq] at h1 hk;obtain ⟨p1,p2⟩:=p;simp only at h1 hk;subst hk;exact ⟨by rw [h1.2],h1.1⟩
theorem look_g [DecidableEq κ]{K:KeyL κ}{w:World}{X:Nat}{L:List (κ×Value)}{T E:TypeId}(h:MapG K w X L)(hT:Tryz.prog.underlying T=some (.map K.ty E)){z:Value}(hz:(zeroValue E).run Tryz.prog w=.ok z w)(k:κ)(ok:Bool) :
  (Instr.lookup T (.map (some X)) (K.kv k) ok).run Tryz.prog w=.ok (if ok then .tuple #[(getG k L).getD z,.bool (getG k L).isSome] else (getG k L).getD z) w:=by
 obtain ⟨es,clock,hb,he⟩:=h;have hck:=K.chk es.isEmpty k w;obtain ⟨r,hr,hc⟩:=K.find k es.toList (L.map Prod.fst) w he.keys;rcases hc with ⟨h4,rfl⟩ | ⟨j,e,h4,h5,rfl⟩
 ·have hg:=getG_none.2 h4;cases ok <;> simp [Instr.lookup,run_underlying hT,Go.MapKept.run_getObj_map hb,hck,hr,hz,hg,Result.andThen]
 ·have hg:=(getG_at he.nd (he.at' h4 h5).1).1;cases ok <;> simp [Instr.lookup,run_underlying hT,Go.MapKept.run_getObj_map hb,hck,hr,hg,Result.andThen]
theorem put_g [DecidableEq κ]{K:KeyL κ}{w:World}{X:Nat}{L:List (κ×Value)}{T E:TypeId}(h:MapG K w X L)(hT:Tryz.prog.underlying T=some (.map K.ty E))(k:κ)(u:Value) :
  ∃ w',(Instr.mapUpdate T (.map (some X)) (K.kv k) u).run Tryz.prog w=.ok () w'∧MapG K w' X (updG k u L)∧w.grownBy w' (some X):=by
 obtain ⟨es,clock,hb,he⟩:=h;have hck:=K.chk false k w;have gr:∀ o,w.grownBy { w with heap:=w.heap.setIfInBounds X o } (some X):=fun o=>⟨rfl,rfl,rfl,by simp,fun j hj hne=>(heap_set hb).2 j (fun e=>hne (by rw [e]))⟩;obtain ⟨r,hr,hc⟩:=K.find k es.toList (L.map Prod.fst) w he.keys;rcases hc with ⟨h4,rfl⟩ | ⟨j,e,h4,h5,rfl⟩
 ·refine ⟨{ w with heap:=w.heap.setIfInBounds X (.map (es.push ⟨K.kv k,u,clock⟩) (clock + 1)) },?_,⟨_,_,(heap_set hb).1,?_⟩,gr _⟩
  ·simp [Instr.mapUpdate,run_underlying hT,Go.MapKept.run_getObj_map hb,hck,hr,run_setObj_map _ hb,Result.andThen]
  ·refine ⟨?_,updG_keys he.nd,fun x hx=>?_,?_⟩
   ·rw [Array.toList_push,List.map_append,he.kv,updG_new h4,List.map_append];rfl
   ·rw [Array.toList_push,List.mem_append] at hx;rcases hx with hx | hx
    ·have:=he.lt x hx;omega
    ·rw [List.mem_singleton.1 hx];exact Nat.lt_succ_self _
   ·rw [Array.toList_push,List.map_append,List.nodup_append];refine ⟨he.bn,by simp,fun a ha b hb'=>?_⟩;obtain ⟨x,hx,rfl⟩:=List.mem_map.1 ha;have h6:=he.lt x hx;simp at hb';omega
 ·obtain ⟨a1,a2⟩:=he.at' h4 h5;have h3':es[j]? =some e:=by rw [← Array.getElem?_toList];exact h4
  have hs:=K.same k;refine ⟨{ w with heap:=w.heap.setIfInBounds X (.map (es.modify j fun e=>{ e with key:=K.kv k,val:=u }) clock) },?_,⟨_,_,(heap_set hb).1,?_⟩,gr _⟩
  ·simp [Instr.mapUpdate,run_underlying hT,Go.MapKept.run_getObj_map hb,hck,hr,run_setObj_map _ hb,Result.andThen,h3',a2,Instr.keyThatStays,hs]
  ·have hm:(es.modify j fun e=>{ e with key:=K.kv k,val:=u }).toList=es.toList.set j { e with key:=K.kv k,val:=u }:=by
    rw [Array.toList_modify];apply List.ext_getElem?;intro i;rw [List.getElem?_modify,List.getElem?_set];by_cases hij:j=i
    ·subst hij;rw [if_pos rfl,h4,if_pos (lt_of_get h4)];simp
    ·rw [if_neg hij];simp [hij]
   refine ⟨?_,updG_keys he.nd,fun x hx=>?_,?_⟩
   ·rw [hm,List.map_set,he.kv,(getG_at he.nd a1).2 u,List.map_set]
   ·rw [hm] at hx;rcases List.mem_or_eq_of_mem_set hx with hx | rfl
    ·exact he.lt x hx
    ·exact he.lt e (List.mem_of_getElem? h4)
   ·rw [hm,List.map_set];have:(es.toList.map MapEntry.born).set j e.born=es.toList.map MapEntry.born:=by
     apply List.ext_getElem?;intro i;rw [List.getElem?_set];by_cases hij:j=i
     ·subst hij;have hj:=lt_of_get h4;rw [if_pos rfl,List.getElem?_map,h4,if_pos (by rw [List.length_map];exact hj)];rfl
     ·rw [if_neg hij]
    rw [this];exact he.bn
structure RngOk (K:KeyL κ) (es:Array MapEntry) (clock:Nat) (seen:Array Nat) (L done left:List (κ×Value)):Prop where
 ok:EsOk K es clock L
 lft:(leftOf es seen).toList.map kvG=left.map (kvP K)
 perm:(done++left).Perm L
theorem RngOk.start {K:KeyL κ}{es:Array MapEntry}{clock:Nat}{L:List (κ×Value)}(h:EsOk K es clock L):RngOk K es clock #[] L [] L :=
 ⟨h,by
  have:leftOf es #[]=es:=by unfold leftOf;simp
  rw [this];exact h.kv,List.Perm.refl _⟩
theorem leftOf_push (es:Array MapEntry)(seen:Array Nat)(x:Nat):leftOf es (seen.push x)=(leftOf es seen).filter (fun e=>e.born != x):=by
 unfold leftOf;rw [Array.filter_filter];congr 1
 funext e
 have:(seen.push x).contains e.born=(seen.contains e.born || e.born==x):=by
  rw [Bool.eq_iff_iff,Bool.or_eq_true,Array.contains_iff_mem,Array.contains_iff_mem,Array.mem_push,beq_iff_eq]
 rw [this];cases seen.contains e.born <;> cases h:(e.born==x) <;> simp [bne,h]
theorem map_erase {α β:Type}(f:α→β):∀ (l:List α) (i:Nat),(l.eraseIdx i).map f=(l.map f).eraseIdx i
 | [],i=>by simp
 | a::r,0=>by simp
 | a::r,i + 1=>by simp [map_erase f r i]
theorem filter_born {l:List MapEntry}(hn:(l.map MapEntry.born).Nodup){i:Nat}{e:MapEntry}(he:l[i]? =some e):l.filter (fun x=>x.born != e.born)=l.eraseIdx i:=by
 induction l generalizing i with
 | nil=>simp at he
 | cons a r ih =>
  rw [List.map_cons,List.nodup_cons] at hn;cases i with
  | zero =>
   obtain rfl:a=e:=by simpa using he
   rw [List.filter_cons_of_neg (by simp),List.eraseIdx_cons_zero,List.filter_eq_self.2];intro x hx;simp only [bne_iff_ne,ne_eq];exact fun e2=>hn.1 (by rw [← e2];exact List.mem_map_of_mem hx)
  | succ i =>
   have he2:r[i]? =some e:=by simpa using he
   have hne:¬ a.born=e.born:=fun e2=>hn.1 (by rw [e2];exact List.mem_map_of_mem (List.mem_of_getElem? he2));rw [List.filter_cons_of_pos (by simpa using hne),List.eraseIdx_cons_succ,ih hn.2 he2]
theorem RngOk.step {K:KeyL κ}{es:Array MapEntry}{clock:Nat}{seen:Array Nat}{L done left:List (κ×Value)}(h:RngOk K es clock seen L done left){e:MapEntry}(he:e∈(leftOf es seen).toList) :
  ∃ p left',e.key=K.kv p.1∧e.val=p.2∧p∈left∧RngOk K es clock (seen.push e.born) L (done++[p]) left'∧left'.length + 1=left.length∧e∈es.toList:=by
 obtain ⟨i,hi,hie⟩:=List.getElem_of_mem he;have hi2:(leftOf es seen).toList[i]? =some e:=by rw [List.getElem?_eq_getElem hi,hie]
 have hbn:((leftOf es seen).toList.map MapEntry.born).Nodup:=by
  unfold leftOf;rw [Array.toList_filter];exact h.ok.bn.sublist (List.Sublist.map _ List.filter_sublist)
 have h1:=congrArg (fun l=>l[i]?) h.lft;simp only [List.getElem?_map,hi2,Option.map_some] at h1;cases hp:left[i]? with
 | none=>rw [hp] at h1;cases h1
 | some p =>
  rw [hp] at h1;simp only [Option.map_some,Option.some.injEq,Prod.mk.injEq] at h1;have hpl:=lt_of_get hp;refine ⟨p,left.eraseIdx i,h1.1,h1.2,List.mem_of_getElem? hp,⟨h.ok,?_,?_⟩,?_,?_⟩
  ·rw [leftOf_push,Array.toList_filter,filter_born hbn hi2];rw [map_erase,map_erase,h.lft]
  ·refine List.Perm.trans ?_ h.perm;rw [List.append_assoc];refine List.Perm.append_left _ ?_;obtain ⟨_,rfl⟩:=List.getElem?_eq_some_iff.1 hp;exact perm_erase left i hpl
  ·rw [List.length_eraseIdx,if_pos hpl];omega
  ·unfold leftOf at he;simp at he;simpa using he.1
theorem RngOk.fin {K:KeyL κ}{es:Array MapEntry}{clock:Nat}{seen:Array Nat}{L done left:List (κ×Value)}(h:RngOk K es clock seen L done left)(h0:(leftOf es seen).size=0):left=[]∧done.Perm L:=by
 have h1:left=[]:=by
  have:=congrArg List.length h.lft
  rw [List.length_map,List.length_map,Array.length_toList,h0] at this;exact List.length_eq_zero_iff.1 this.symm
 subst h1;exact ⟨rfl,by simpa using h.perm⟩
end
section
variable {κ:Type} {w0 w:World} {cs:List Chunk}
theorem Mem.newMapG (K:KeyL κ)(S:Mem w0 w cs)(X:Nat)(hX:X=w.heap.size):Mem w0 (w.alloc (.map #[] 0)) (cs++[.mapG K X []]):=by
 subst hX;exact S.call ((Below.refl _ _).alloc (Nat.le_refl _) _) _ ⟨#[],0,by show (w.heap.push (.map #[] 0))[w.heap.size]? =_;simp,⟨rfl,by simp,by simp,by simp⟩⟩ (fun k e=>by cases e;exact Nat.le_refl _)
theorem Mem.frzG {K:KeyL κ}(S:Mem w0 w cs)(i:Nat){X:Nat}{L:List (κ×Value)}(hi:cs[i]? =some (.mapG K X L)):∃ es clock,EsOk K es clock L∧Mem w0 w (cs.set i (.mapE X es clock)):=by
 obtain ⟨es,clock,hb,he⟩:=S.ok _ (List.mem_of_getElem? hi);refine ⟨es,clock,he,S.b,fun c hc=>?_,fun c hc k e=>?_,?_⟩
 ·have hX:=S.new _ (List.mem_of_getElem? hi) X rfl;have hi':=lt_of_get hi;have hne:∀ j c,cs[j]? =some c→j≠i→c.blk≠some X:=fun j c hj hji e=>by
   have hp:=List.pairwise_iff_getElem.1 S.sep;obtain ⟨hjl,rfl⟩:=List.getElem?_eq_some_iff.1 hj;obtain ⟨hil,hie⟩:=List.getElem?_eq_some_iff.1 hi;rcases Nat.lt_or_gt_of_ne hji with h | h
   ·exact hp j i hjl hil h X e (by rw [hie];rfl)
   ·exact hp i j hil hjl h X (by rw [hie];rfl) e
  rcases mem_set_cases hc with rfl | ⟨j,hji,hj⟩
  ·refine ⟨fun hm=>?_,hb⟩;rcases hm with hm | ⟨q,hq,e⟩
   ·omega
   ·rcases mem_set_cases hq with rfl | ⟨j,hji,hj⟩
    ·cases e
    ·exact hne j q hj hji e
  ·refine c.mono (fun k _ e=>.inl ?_) (S.ok c (List.mem_of_getElem? hj));rcases e with e | ⟨q,hq,e⟩
   ·exact .inl e
   ·rcases mem_set_cases hq with rfl | ⟨j2,_,hj2⟩
    ·cases e
    ·exact .inr ⟨q,List.mem_of_getElem? hj2,e⟩
 ·rcases mem_set_cases hc with rfl | ⟨j,_,hj⟩
  ·cases e
  ·exact S.new c (List.mem_of_getElem? hj) k e
 ·refine List.pairwise_iff_getElem.2 fun a b ha hb' hab k e1 e2=>?_;have hp:=List.pairwise_iff_getElem.1 S.sep;rw [List.length_set] at ha hb';rw [List.getElem_set] at e1 e2;split at e1
  ·cases e1
  ·split at e2
   ·cases e2
   ·exact hp a b ha hb' hab k e1 e2
theorem Mem.rangeG (S:Mem w0 w cs)(i:Nat){X:Nat}{es:Array MapEntry}{clock:Nat}(hi:cs[i]? =some (.mapE X es clock)){T k e:TypeId}(hT:Tryz.prog.underlying T=some (.map k e)) :
  (Instr.range T (.map (some X))).run Tryz.prog w=.ok (.pointer (some ⟨w.heap.size,0,none⟩)) (w.alloc (.mapIter (some X) clock #[] clock))∧Mem w0 (w.alloc (.mapIter (some X) clock #[] clock)) (cs++[.iter w.heap.size X clock #[] clock]):=by
 obtain ⟨_,hb⟩:=S.ok _ (List.mem_of_getElem? hi);exact ⟨run_range_map w T k e X es clock hT hb,S.call ((Below.refl _ _).alloc (Nat.le_refl _) _) _ (by show (w.heap.push _)[w.heap.size]? =_;simp) (fun k e=>by cases e;exact Nat.le_refl _)⟩
theorem Mem.rangeO (S:Mem w0 w cs){X:Nat}{es:Array MapEntry}{clock:Nat}(hb:w.heap[X]? =some (.map es clock)){T k e:TypeId}(hT:Tryz.prog.underlying T=some (.map k e)) :
  (Instr.range T (.map (some X))).run Tryz.prog w=.ok (.pointer (some ⟨w.heap.size,0,none⟩)) (w.alloc (.mapIter (some X) clock #[] clock))∧Mem w0 (w.alloc (.mapIter (some X) clock #[] clock)) (cs++[.iter w.heap.size X clock #[] clock]) :=
 ⟨run_range_map w T k e X es clock hT hb,S.call ((Below.refl _ _).alloc (Nat.le_refl _) _) _ (by show (w.heap.push _)[w.heap.size]? =_;simp) (fun k e=>by cases e;exact Nat.le_refl _)⟩
theorem Mem.nextO {K:KeyL κ}(S:Mem w0 w cs)(j:Nat){X R clock c0:Nat}{es:Array MapEntry}{seen:Array Nat}{L done left:List (κ×Value)}(hb:w.heap[X]? =some (.map es clock))(hj:cs[j]? =some (.iter R X clock seen c0))(hc:clock≤c0)(hr:RngOk K es clock seen L done left) :
  (left=[]∧done.Perm L∧∀ ty,(Instr.next (.pointer (some ⟨R,0,none⟩)) false ty).run Tryz.prog w=.ok (.tuple #[.bool false]) w) ∨
  ∃ p left' seen' w',p∈left∧left'.length + 1=left.length∧RngOk K es clock seen' L (done++[p]) left'∧(∀ ty,(Instr.next (.pointer (some ⟨R,0,none⟩)) false ty).run Tryz.prog w=.ok (.tuple #[.bool true,K.kv p.1,p.2]) w') ∧
   (Instr.entry (.pointer (some ⟨R,0,none⟩))).run Tryz.prog w'=.ok (.tuple #[K.kv p.1,p.2]) w'∧Mem w0 w' (cs.set j (.iter R X clock seen' clock)):=by
 have hR:w.heap[R]? =some (.mapIter (some X) clock seen c0):=S.ok _ (List.mem_of_getElem? hj);have hRn:=S.new _ (List.mem_of_getElem? hj) R rfl;by_cases h0:(leftOf es seen).size=0
 ·obtain ⟨h1,h2⟩:=hr.fin h0;refine .inl ⟨h1,h2,fun ty=>?_⟩;rcases run_next_at (P:=Tryz.prog) w ty R X clock c0 seen es clock hR hb hr.ok.lt hc with ⟨_,h⟩ | ⟨e,he,_⟩
  ·exact h
  ·exact absurd h0 (by
    have:0 < (leftOf es seen).toList.length:=List.length_pos_of_mem he
    rw [Array.length_toList] at this;omega)
 ·have key:∀ ty,∃ e∈(leftOf es seen).toList,∃ w1:World,(w1=w∨w1=w.drew)∧(Instr.next (.pointer (some ⟨R,0,none⟩)) false ty).run Tryz.prog w=.ok (.tuple #[.bool true,e.key,e.val]) (Go.ChangeMaps.setBlock w1 R (.mapIter (some X) clock (seen.push e.born) clock)):=fun ty=>by
   rcases run_next_at (P:=Tryz.prog) w ty R X clock c0 seen es clock hR hb hr.ok.lt hc with ⟨h,_⟩ | h
   ·exact absurd h h0
   ·exact h
  have hty:∀ ty,(Instr.next (.pointer (some ⟨R,0,none⟩)) false ty)=(Instr.next (.pointer (some ⟨R,0,none⟩)) false 0):=fun ty=>rfl;obtain ⟨e,he,w1,hw1,hrun⟩:=key 0;obtain ⟨p,left',h1,h2,h3,h4,h5,h6⟩:=hr.step he;right
  have hR1:w1.heap[R]? =some (.mapIter (some X) clock seen c0):=by rcases hw1 with rfl | rfl <;> exact hR
  have hX1:w1.heap[X]? =some (.map es clock):=by rcases hw1 with rfl | rfl <;> exact hb
  have hXR:X≠R:=fun e=>by rw [e,hR1] at hX1;cases hX1
  have hset:(Go.ChangeMaps.setBlock w1 R (.mapIter (some X) clock (seen.push e.born) clock)).heap[R]? =some (.mapIter (some X) clock (seen.push e.born) clock):=(heap_set hR1).1;have hoth:∀ k,k≠R→(Go.ChangeMaps.setBlock w1 R (.mapIter (some X) clock (seen.push e.born) clock)).heap[k]? =w.heap[k]? :=fun k hk=>by
   rw [show (Go.ChangeMaps.setBlock w1 R (.mapIter (some X) clock (seen.push e.born) clock)).heap[k]? =w1.heap[k]? from (heap_set hR1).2 k hk];rcases hw1 with rfl | rfl <;> rfl
  have hsz:(Go.ChangeMaps.setBlock w1 R (.mapIter (some X) clock (seen.push e.born) clock)).heap.size=w.heap.size:=by
   show (w1.heap.setIfInBounds _ _).size=_;rw [Array.size_setIfInBounds];rcases hw1 with rfl | rfl <;> rfl
  have hent:=run_entry_at (P:=Tryz.prog) _ R X clock seen es clock e hset ((hoth X hXR).trans hb) h6 hr.ok.bn;refine ⟨p,left',seen.push e.born,_,h3,h5,h4,fun ty=>by rw [hty ty,hrun,h1,h2],by rw [hent,h1,h2],?_⟩;have hbl:Below w0.heap.size w (Go.ChangeMaps.setBlock w1 R (.mapIter (some X) clock (seen.push e.born) clock)) :=
   ⟨by rcases hw1 with rfl | rfl <;> rfl,by rcases hw1 with rfl | rfl <;> rfl,by rcases hw1 with rfl | rfl <;> rfl,by rw [hsz];exact Nat.le_refl _,fun k hk=>hoth k (by omega)⟩
  exact S.upd j hj (.iter R X clock (seen.push e.born) clock) ⟨by rw [hsz];exact Nat.le_refl _,fun k _ hn=>hoth k (fun e2=>hn (by rw [e2];rfl))⟩ (S.b.trans hbl) (fun k e=>.inl e) hset
theorem Mem.nextG {K:KeyL κ}(S:Mem w0 w cs)(i j:Nat){X R clock c0:Nat}{es:Array MapEntry}{seen:Array Nat}{L done left:List (κ×Value)}(hi:cs[i]? =some (.mapE X es clock))(hj:cs[j]? =some (.iter R X clock seen c0))(hc:clock≤c0)(hr:RngOk K es clock seen L done left) :
  (left=[]∧done.Perm L∧∀ ty,(Instr.next (.pointer (some ⟨R,0,none⟩)) false ty).run Tryz.prog w=.ok (.tuple #[.bool false]) w) ∨
  ∃ p left' seen' w',p∈left∧left'.length + 1=left.length∧RngOk K es clock seen' L (done++[p]) left'∧(∀ ty,(Instr.next (.pointer (some ⟨R,0,none⟩)) false ty).run Tryz.prog w=.ok (.tuple #[.bool true,K.kv p.1,p.2]) w') ∧
   (Instr.entry (.pointer (some ⟨R,0,none⟩))).run Tryz.prog w'=.ok (.tuple #[K.kv p.1,p.2]) w'∧Mem w0 w' (cs.set j (.iter R X clock seen' clock)) :=
 S.nextO j (S.ok _ (List.mem_of_getElem? hi)).2 hj hc hr
end
section
variable {κ:Type} [DecidableEq κ] {w0 w:World} {cs:List Chunk} {ops:Array Oper} {rest:List Oper} {o:Oper} {a:Act} {Q:Exit→Act→World→Prop}
theorem Mem.lookG {K:KeyL κ}(S:Mem w0 w cs)(i:Nat){X:Nat}{L:List (κ×Value)}(hi:cs[i]? =some (.mapG K X L)){T E:TypeId}(hT:Tryz.prog.underlying T=some (.map K.ty E)){z:Value}(hz:∀ w,(zeroValue E).run Tryz.prog w=.ok z w)
  (hgd:o.guard=none) (m x:Operand) (ok:Bool) (hop:o.op=.lookup T m x ok) (hm:a.eval m=.map (some X)) (y:κ) (hx:a.eval x=K.kv y) (h:wpList Tryz.prog ops Q rest (a.put o.dst (if ok then .tuple #[(getG y L).getD z,.bool (getG y L).isSome] else (getG y L).getD z)) w):wpList Tryz.prog ops Q (o::rest) a w:=by
 have hrun:=look_g (S.ok _ (List.mem_of_getElem? hi)) hT (hz w) y ok;refine wpList_plain hgd fun K' hK'=>?_;unfold Oper.wp;simp only [execOp,hop,hm,hx,hrun,Sem.run_bind,Sem.run_pure,Result.andThen_ok];exact hK' _ _ h
theorem Mem.putG {K:KeyL κ}(S:Mem w0 w cs)(i:Nat){X:Nat}{L:List (κ×Value)}(hi:cs[i]? =some (.mapG K X L)){T E:TypeId}(hT:Tryz.prog.underlying T=some (.map K.ty E))
  (hgd:o.guard=none) (m x v:Operand) (hop:o.op=.mapUpdate T m x v) (hm:a.eval m=.map (some X)) (y:κ) (hx:a.eval x=K.kv y) (u:Value) (hv:a.eval v=u)
  (h:∀ w',Mem w0 w' (cs.set i (.mapG K X (updG y u L)))→wpList Tryz.prog ops Q rest (a.put o.dst undef) w'):wpList Tryz.prog ops Q (o::rest) a w:=by
 obtain ⟨w',hrun,hm',hgr⟩:=put_g (S.ok _ (List.mem_of_getElem? hi)) hT y u;have hX:=S.new _ (List.mem_of_getElem? hi) X rfl;have hbl:Below w0.heap.size w w':=(Below.refl _ w).grown hgr S.b.size (fun k hk=>by cases hk;exact hX);have S2:=S.upd i hi (.mapG K X (updG y u L)) ⟨hgr.size,fun k hk hn=>hgr.block k hk (fun e=>hn e.symm)⟩ (S.b.trans hbl) (fun k e=>.inl e) hm';refine wpList_plain hgd fun K' hK'=>?_;unfold Oper.wp;simp [execOp,hop,hm,hx,hv,hrun,Result.andThen];exact hK' _ _ (h w' S2)
end
end
section
open Go Go.RowKit Go.MapKept
theorem askG_run (x:IdV):∀ (es:List MapEntry) (L:List IdV) (i:Nat) (w:World),es.map MapEntry.key=L.map idVal→∃ r,(Instr.findAsking 46 (idVal x) es i).run Tryz.prog w=.ok r w∧((x ∉ L∧r=none)∨∃ j e,es[j]? =some e∧L[j]? =some x∧r=some (i + j,e.val))
 | [],L,i,w,h=>by
  cases L with
  | nil=>exact ⟨none,by simp [Instr.findAsking],.inl ⟨by simp,rfl⟩⟩
  | cons p r=>simp at h
 | e::es,[],i,w,h=>by simp at h
 | e::es,p::r,i,w,h=>by
  simp only [List.map_cons,List.cons.injEq] at h;obtain ⟨h1,h3⟩:=h;have hq:=eqId_run x p w;rw [eqId_dec] at hq;by_cases hx:x=p
  ·refine ⟨some (i,e.val),?_,.inr ⟨0,e,rfl,by simp [hx],rfl⟩⟩;rw [decide_eq_true hx] at hq;simp [Instr.findAsking,h1,hq]
  ·rw [decide_eq_false hx] at hq;obtain ⟨r',hr,hc⟩:=askG_run x es r (i + 1) w h3;refine ⟨r',by simp [Instr.findAsking,h1,hq,hr],?_⟩;rcases hc with ⟨h4,h5⟩ | ⟨j,e',h4,h5,h6⟩
   ·exact .inl ⟨by simp [hx,h4],h5⟩
   ·exact .inr ⟨j + 1,e',by simpa using h4,by simpa using h5,by rw [h6,show i + (j + 1)=i + 1 + j by omega]⟩
set_option maxRecDepth 100000 in
def keyId:KeyL IdV where
 kv:=idVal
 ty:=46
 chk b x w:=chkId_n x b 9998 w
 same:=sameId
 find x es L w h:=by
  have e:=run_findKey_eq (P:=Tryz.prog) (w:=w) (k:=46) (by kernel_rfl) (idVal x) es;obtain ⟨r,hr,hc⟩:=askG_run x es L 0 w h;refine ⟨r,by rw [e];exact hr,?_⟩;rcases hc with h1 | ⟨j,e',h4,h5,h6⟩
  ·exact .inl h1
  ·exact .inr ⟨j,e',h4,h5,by rw [h6,Nat.zero_add]⟩
end
section
open Go Go.RowKit
def havGo (x:IdV)(i:Nat):List Tch→List Nat
 | []=>[]
 | t::r=>(if x∈t.ids then [i] else [])++havGo x (i + 1) r
def hav (l:List Tch)(x:IdV):List Nat:=havGo x 0 l
theorem havGo_snoc (x:IdV)(t:Tch):∀ (l:List Tch) (i:Nat),havGo x i (l++[t])=havGo x i l++(if x∈t.ids then [i + l.length] else [])
 | [],i=>by simp [havGo]
 | a::r,i=>by
  rw [List.cons_append,havGo,havGo_snoc x t r (i + 1),havGo,List.append_assoc,List.length_cons,show i + 1 + r.length=i + (r.length + 1) by omega]
theorem havGo_mem (x:IdV):∀ (l:List Tch) (i j:Nat),j∈havGo x i l ↔ ∃ t,i≤j∧l[j - i]? =some t∧x∈t.ids
 | [],i,j=>by simp [havGo]
 | a::r,i,j=>by
  rw [havGo,List.mem_append,havGo_mem x r (i + 1) j];constructor
  ·rintro (h | ⟨t,h1,h2,h3⟩)
   ·split at h
    ·rename_i hx;obtain rfl:j=i:=by simpa using h
     exact ⟨a,Nat.le_refl _,by simp,hx⟩
    ·cases h
   ·refine ⟨t,by omega,?_,h3⟩;rw [show j - i=(j - (i + 1)) + 1 by omega,List.getElem?_cons_succ];exact h2
  ·rintro ⟨t,h1,h2,h3⟩;by_cases e:j=i
   ·subst e;rw [Nat.sub_self] at h2;obtain rfl:a=t:=by simpa using h2
    exact .inl (by rw [if_pos h3];simp)
   ·refine .inr ⟨t,by omega,?_,h3⟩;rw [show j - i=(j - (i + 1)) + 1 by omega,List.getElem?_cons_succ] at h2;exact h2
theorem hav_mem {l:List Tch}{x:IdV}{j:Nat}:j∈hav l x ↔ ∃ t,l[j]? =some t∧x∈t.ids:=by
 unfold hav;rw [havGo_mem];constructor
 ·rintro ⟨t,_,h2,h3⟩;exact ⟨t,h2,h3⟩
 ·rintro ⟨t,h2,h3⟩;exact ⟨t,Nat.zero_le _,h2,h3⟩
theorem hav_lt {l:List Tch}{x:IdV}{j:Nat}(h:j∈hav l x):j < l.length:=by
 obtain ⟨t,h1,_⟩:=hav_mem.1 h;exact lt_of_get h1
theorem hav_len (l:List Tch)(x:IdV):(hav l x).length≤l.length:=by
 have h:∀ (l:List Tch) (i:Nat),(havGo x i l).length≤l.length:=by
  intro l;induction l with
  | nil=>intro i;simp [havGo]
  | cons a r ih =>
   intro i;rw [havGo,List.length_append,List.length_cons];have:=ih (i + 1)
   split <;> simp <;> omega
 exact h l 0
theorem hav_take {l:List Tch}{x:IdV}{k:Nat}{t:Tch}(h:l[k]? =some t):hav (l.take (k + 1)) x=hav (l.take k) x++(if x∈t.ids then [k] else []):=by
 unfold hav;rw [take_snoc h,havGo_snoc,Nat.zero_add,List.length_take,Nat.min_eq_left (Nat.le_of_lt (lt_of_get h))]
def some1 (l:List Nat):Option (List Nat):=if l=[] then none else some l
def addH (L:List (IdV×List Nat))(i:Nat)(x:IdV):List (IdV×List Nat):=updG x ((getG x L).getD []++[i]) L
def HavOk (l:List Tch)(k:Nat)(xs:List IdV)(L:List (IdV×List Nat)):Prop:=(L.map Prod.fst).Nodup∧∀ x,getG x L=some1 (hav (l.take k) x++(if x∈xs then [k] else []))
theorem some1_getD (l:List Nat):(some1 l).getD []=l:=by unfold some1;split <;> simp_all
theorem HavOk.add {l:List Tch}{k:Nat}{xs:List IdV}{L:List (IdV×List Nat)}(h:HavOk l k xs L){x:IdV}(hx:x ∉ xs):HavOk l k (xs++[x]) (addH L k x):=by
 refine ⟨updG_keys h.1,fun y=>?_⟩;unfold addH;rw [getG_upd,h.2 x,some1_getD,if_neg hx,List.append_nil];by_cases e:y=x
 ·subst e;rw [if_pos rfl,if_pos (by simp)];unfold some1;rw [if_neg (by simp)]
 ·rw [if_neg e,h.2 y];simp [e]
theorem HavOk.next {l:List Tch}{k:Nat}{t:Tch}{L:List (IdV×List Nat)}(ht:l[k]? =some t)(h:HavOk l k t.ids L):HavOk l (k + 1) [] L:=⟨h.1,fun x=>by rw [h.2 x,hav_take ht];simp⟩
theorem HavOk.start (l:List Tch):HavOk l 0 [] []:=⟨by simp,fun x=>by simp [getG,some1,hav,havGo]⟩
def joinsP (r:Rul)(l:List Tch)(x:IdV):Bool:=decide (x.k∈r.kinds) && !decide (x∈r.weak) && decide (((hav l x).length:Int)≤r.most)
def idsAt (l:List Tch)(i:Nat):List IdV:=match l[i]? with | some t=>t.ids | none=>[]
theorem idsAt_is {l:List Tch}{i:Nat}{t:Tch}(h:l[i]? =some t):idsAt l i=t.ids:=by unfold idsAt;rw [h]
def Edge (r:Rul)(l:List Tch)(i j:Nat):Prop:=∃ x,joinsP r l x=true∧x∈idsAt l i∧x∈idsAt l j
theorem mem_idsAt {l:List Tch}{i:Nat}{x:IdV}:x∈idsAt l i ↔ i∈hav l x:=by
 rw [hav_mem];unfold idsAt;cases h:l[i]? with
 | none=>simp
 | some t=>simp
def insI (x:IdV):List IdV→List IdV
 | []=>[x]
 | y::r=>if cmpId x y < 0 then x::y::r else if cmpId x y=0 then y::r else y::insI x r
def srtId (l:List IdV):List IdV:=l.foldr insI []
theorem insI_mem (x:IdV):∀ (l:List IdV) (y:IdV),y∈insI x l ↔ y=x∨y∈l
 | [],y=>by simp [insI]
 | z::r,y=>by
  rw [insI];split
  ·simp
  ·split
   ·rename_i h;have e:=cmpId_zero h;subst e;simp
   ·rw [List.mem_cons,insI_mem x r y,List.mem_cons];exact ⟨fun h=>h.elim (fun e=>.inr (.inl e)) (fun h=>h.elim .inl (fun e=>.inr (.inr e))),fun h=>h.elim (fun e=>.inr (.inl e)) (fun h=>h.elim .inl (fun e=>.inr (.inr e)))⟩
theorem insI_up (x:IdV):∀ (l:List IdV),RiseI l→RiseI (insI x l)
 | [],_=>by simp [insI,RiseI]
 | z::r,h=>by
  obtain ⟨h1,h2⟩:=List.pairwise_cons.1 h;rw [insI];split
  ·rename_i hx;exact List.pairwise_cons.2 ⟨fun y hy=>by
    rcases List.mem_cons.1 hy with rfl | hy
    ·exact hx
    ·exact cmpId_ok.lt hx (Int.le_of_lt (h1 y hy)),h⟩
  ·rename_i hx;split
   ·exact h
   ·rename_i hz;refine List.pairwise_cons.2 ⟨fun y hy=>?_,insI_up x r h2⟩;rcases (insI_mem x r y).1 hy with rfl | hy
    ·have:=cmpId_ok.anti z y
     omega
    ·exact h1 y hy
theorem srtId_up (l:List IdV):RiseI (srtId l):=by
 unfold srtId;induction l with
 | nil=>exact List.Pairwise.nil
 | cons x r ih=>exact insI_up x _ ih
theorem srtId_mem (l:List IdV)(y:IdV):y∈srtId l ↔ y∈l:=by
 unfold srtId;induction l with
 | nil=>simp
 | cons x r ih=>rw [List.foldr_cons,insI_mem,ih,List.mem_cons]
theorem rise_eq {l m:List IdV}(hl:RiseI l)(hm:RiseI m)(h:∀ x,x∈l ↔ x∈m):l=m :=
 strict_eq (fun a b=>cmpId a b < 0) (fun x=>by rw [cmpId_ok.refl x];exact Int.lt_irrefl 0) (fun x y z h1 h2=>cmpId_ok.lt h1 (Int.le_of_lt h2)) l m hl hm h
theorem srtId_is {l m:List IdV}(hm:RiseI m)(h:∀ x,x∈m ↔ x∈l):m=srtId l:=rise_eq hm (srtId_up l) (fun x=>by rw [h,srtId_mem])
structure Psn where
 key:IdV
 tch:List Int
 ids:List IdV
def keyP (r:Rul)(l:List Tch)(t:Tch):IdV:=(t.ids.find? (joinsP r l)).getD (t.ids.headD ⟨0,⟨#[]⟩⟩)
def partAt (c:Nat→Nat)(n i:Nat):List Nat:=(List.range n).filter (fun k=>c k==i)
def noAt (l:List Tch)(i:Nat):Int:=match l[i]? with | some t=>t.no | none=>0
def psnAt (r:Rul)(l:List Tch)(c:Nat→Nat)(i:Nat):Psn :=
 ⟨match l[i]? with | some t=>keyP r l t | none=>⟨0,⟨#[]⟩⟩,(partAt c l.length i).map (noAt l),srtId ((partAt c l.length i).flatMap (idsAt l))⟩
def heads (c:Nat→Nat)(n:Nat):List Nat:=(List.range n).filter (fun i=>c i==i)
def psns (r:Rul)(l:List Tch)(c:Nat→Nat):List Psn:=(heads c l.length).map (psnAt r l c)
def IsPsns (r:Rul)(l:List Tch)(P:List Psn):Prop:=∃ c,IsPart l.length (Edge r l) c∧P=psns r l c
theorem partAt_eq {c d:Nat→Nat}{n:Nat}(h:∀ i,i < n→c i=d i)(i:Nat):partAt c n i=partAt d n i:=by
 unfold partAt;exact List.filter_congr fun k hk=>by rw [h k (by simpa using hk)]
theorem heads_eq {c d:Nat→Nat}{n:Nat}(h:∀ i,i < n→c i=d i):heads c n=heads d n:=by
 unfold heads;exact List.filter_congr fun k hk=>by rw [h k (by simpa using hk)]
theorem IsPsns.uniq {r:Rul}{l:List Tch}{P Q:List Psn}(h:IsPsns r l P)(g:IsPsns r l Q):P=Q:=by
 obtain ⟨c,hc,rfl⟩:=h;obtain ⟨d,hd,rfl⟩:=g;have e:∀ i,i < l.length→c i=d i:=fun i hi=>hc.uniq hd hi;unfold psns psnAt;rw [heads_eq e];refine List.map_congr_left fun i _=>?_;rw [partAt_eq e]
end
section
open Go Go.RowKit
def iL (js:List Nat):List Int:=js.map Int.ofNat
theorem iL_len (js:List Nat):(iL js).length=js.length:=by simp [iL]
theorem iL_snoc (js:List Nat)(k:Nat):iL (js++[k])=iL js++[(k:Int)]:=by simp [iL]
theorem iL_at {js:List Nat}{i k:Nat}(h:js[i]? =some k):(iL js)[i]? =some (k:Int):=by simp [iL,h]
theorem iL_set (js:List Nat)(i k:Nat):iL (js.set i k)=(iL js).set i (k:Int):=by simp [iL,List.map_set]
structure HQ where
 x:IdV
 A:Option Addr
 c:Nat
 js:List Nat
def HQ.v (q:HQ):Value:=.slice q.A q.js.length q.c
def HQ.kv (q:HQ):IdV×Value:=(q.x,.slice q.A q.js.length q.c)
def HQ.kl (q:HQ):IdV×List Nat:=(q.x,q.js)
def hq (B:Nat)(q:HQ):Chunk:=.own rInt B 3 (.slice q.A q.js.length q.c) (iL q.js)
def havC (B X:Nat)(qs:List HQ):List Chunk:=.mapG keyId X (qs.map HQ.kv)::qs.map (hq B)
theorem kv_keys (qs:List HQ):(qs.map HQ.kv).map Prod.fst=qs.map HQ.x:=by simp [HQ.kv,Function.comp_def]
theorem kl_keys (qs:List HQ):(qs.map HQ.kl).map Prod.fst=qs.map HQ.x:=by simp [HQ.kl,Function.comp_def]
theorem hq_cases (qs:List HQ)(hn:(qs.map HQ.x).Nodup)(x:IdV) :
  (x ∉ qs.map HQ.x∧getG x (qs.map HQ.kv)=none∧getG x (qs.map HQ.kl)=none) ∨
  ∃ (j:Nat) (q:HQ),qs[j]? =some q∧q.x=x∧getG x (qs.map HQ.kv)=some q.v∧getG x (qs.map HQ.kl)=some q.js:=by
 by_cases h:x∈qs.map HQ.x
 ·right
  obtain ⟨q,hq,e⟩:=List.mem_map.1 h;obtain ⟨j,hj⟩:=List.mem_iff_getElem?.1 hq;refine ⟨j,q,hj,e,?_,?_⟩
  ·exact (getG_at (L:=qs.map HQ.kv) (j:=j) (k:=x) (v:=q.v) (by rw [kv_keys];exact hn) (by rw [List.getElem?_map,hj];subst e;rfl)).1
  ·exact (getG_at (L:=qs.map HQ.kl) (j:=j) (k:=x) (v:=q.js) (by rw [kl_keys];exact hn) (by rw [List.getElem?_map,hj];subst e;rfl)).1
 ·exact .inl ⟨h,getG_none.2 (by rw [kv_keys];exact h),getG_none.2 (by rw [kl_keys];exact h)⟩
theorem upd_old {qs:List HQ}(hn:(qs.map HQ.x).Nodup){j:Nat}{q q':HQ}(hj:qs[j]? =some q)(hx:q'.x=q.x):updG q.x q'.v (qs.map HQ.kv)=(qs.set j q').map HQ.kv∧updG q.x q'.js (qs.map HQ.kl)=(qs.set j q').map HQ.kl:=by
 constructor
 ·rw [(getG_at (L:=qs.map HQ.kv) (j:=j) (k:=q.x) (v:=q.v) (by rw [kv_keys];exact hn) (by rw [List.getElem?_map,hj];rfl)).2 q'.v,List.map_set];rw [← hx];rfl
 ·rw [(getG_at (L:=qs.map HQ.kl) (j:=j) (k:=q.x) (v:=q.js) (by rw [kl_keys];exact hn) (by rw [List.getElem?_map,hj];rfl)).2 q'.js,List.map_set];rw [← hx];rfl
theorem upd_new {qs:List HQ}{q:HQ}(h:q.x ∉ qs.map HQ.x):updG q.x q.v (qs.map HQ.kv)=(qs++[q]).map HQ.kv∧updG q.x q.js (qs.map HQ.kl)=(qs++[q]).map HQ.kl:=by
 constructor
 ·rw [updG_new (by rw [kv_keys];exact h),List.map_append];rfl
 ·rw [updG_new (by rw [kl_keys];exact h),List.map_append];rfl
def SlotsOk (M:Nat→Prop)(w:World)(qs:List HQ):Prop:=∀ q∈qs,Sl rInt M w q.A (iL q.js)
def Chunk.slots (qs:List HQ):Chunk :=
 ⟨none,fun M w=>SlotsOk M w qs,fun k hd _ h q hq=>(h q hq).keep (k.mono hd),fun hm h q hq=>(h q hq).mono (fun k hk e=>(hm k hk e).resolve_right (by simp)),fun _ _ e=>by cases e⟩
theorem Mem.swapFor {w0 w:World}{cs ds:List Chunk}(S:Mem w0 w (cs++ds))(c:Chunk)(hc:c.blk=none)(hok:c.ok (Mut w0.heap.size cs) w):Mem w0 w (cs++[c]):=by
 have hm:∀ k,Mut w0.heap.size (cs++[c]) k→Mut w0.heap.size cs k:=fun k e=>by
  rcases e with e | ⟨q,hq,e⟩
  ·exact .inl e
  ·rcases List.mem_append.1 hq with hq | hq
   ·exact .inr ⟨q,hq,e⟩
   ·rw [List.mem_singleton.1 hq,hc] at e;cases e
 refine ⟨S.b,fun d hd=>?_,fun d hd k e=>?_,?_⟩
 ·rcases List.mem_append.1 hd with hd | hd
  ·refine d.mono (fun k _ e=>.inl ?_) (S.ok d (List.mem_append_left _ hd));rcases hm k e with e | ⟨q,hq,e⟩
   ·exact .inl e
   ·exact .inr ⟨q,List.mem_append_left _ hq,e⟩
  ·rw [List.mem_singleton.1 hd];exact c.mono (fun k _ e=>.inl (hm k e)) hok
 ·rcases List.mem_append.1 hd with hd | hd
  ·exact S.new d (List.mem_append_left _ hd) k e
  ·rw [List.mem_singleton.1 hd,hc] at e;cases e
 ·refine List.pairwise_append.2 ⟨(List.pairwise_append.1 S.sep).1,List.pairwise_singleton _ _,fun x _ y hy k _ e2=>?_⟩;rw [List.mem_singleton.1 hy,hc] at e2;cases e2
theorem Mem.frzSlots {w0 w:World}{cs:List Chunk}{B:Nat}{qs:List HQ}(S:Mem w0 w (cs++qs.map (hq B))):Mem w0 w (cs++[.slots qs]):=by
 refine S.swapFor (.slots qs) rfl (fun q hq'=>?_);have hmem:hq B q∈cs++qs.map (hq B):=List.mem_append_right _ (List.mem_map_of_mem hq');have ho:Own rInt (Mut w0.heap.size (cs++qs.map (hq B))) B 3 w (.slice q.A q.js.length q.c) (iL q.js):=S.ok _ hmem;have hs:=ho.slF flatInt;intro i x hx;obtain ⟨blk,off,l,e1,h1,_,h3,h4⟩:=hs i x hx;refine ⟨blk,off,l,e1,h1,fun hm=>?_,h3,h4⟩;have hb:(hq B q).blk=some blk:=by
  show (Value.slice q.A q.js.length q.c).ownBlock=some blk;rw [e1];rfl
 have hnew:=S.new _ hmem blk hb;rcases hm with hm | ⟨d,hd,e⟩
 ·omega
 ·exact (List.pairwise_append.1 S.sep).2.2 d hd _ (List.mem_map_of_mem hq') blk e hb
end
section
open Go Go.RowKit
def Keeps (c:Nat→Nat)(p q:List Nat):Prop:=∀ j:Nat,p[j]? =some (c j)→q[j]? =some (c j)
theorem Keeps.trans {c:Nat→Nat}{p q r:List Nat}(h:Keeps c p q)(g:Keeps c q r):Keeps c p r:=fun j e=>g j (h j e)
theorem Roots.lt {n:Nat}{p:List Nat}{c:Nat→Nat}(h:Roots n p c){i q:Nat}(hq:p[i]? =some q):i < n:=by
 have:=lt_of_get hq
 rw [h.len] at this;exact this
theorem Roots.atRoot {n:Nat}{p:List Nat}{c:Nat→Nat}(h:Roots n p c)(hle:∀ i,i < n→c i≤i){m:Nat}(hm:m < n)(hc:c m=m):p[m]? =some m:=by
 obtain ⟨s,hs⟩:∃ s,p[m]? =some s:=⟨_,List.getElem?_eq_getElem (by rw [h.len];exact hm)⟩;obtain ⟨a1,a2,_⟩:=h.at' m s hs;have:=hle s (by omega)
 have e:s=m:=by omega
 rw [hs,e]
theorem Roots.keeps {n:Nat}{p:List Nat}{c:Nat→Nat}(h:Roots n p c)(hle:∀ i,i < n→c i≤i)(hfix:∀ i,i < n→c (c i)=c i){i q r:Nat}(hq:p[i]? =some q)(hr:p[q]? =some r):Keeps c p (p.set i r):=fun j hj=>by
 rw [List.getElem?_set];by_cases e:i=j
 ·subst e;rw [hq] at hj;obtain rfl:q=c i:=Option.some.inj hj;have hi:=h.lt hq;rw [h.atRoot hle (Nat.lt_of_le_of_lt (hle i hi) hi) (hfix i hi)] at hr;obtain rfl:=Option.some.inj hr;rw [if_pos rfl,if_pos (lt_of_get hq)]
 ·rw [if_neg e];exact hj
def FindsR (w0:World)(R g B n cap:Nat)(c:Nat→Nat)(i:Nat)(p:List Nat)(cs:List Chunk)(e:Ending)(w':World):Prop :=
 ∃ q:List Nat,e=.returned (.int .i64 (c i))∧Roots n q c∧Keeps c p q∧Mem w0 w' (.loc R #[.slice (some ⟨g,0,none⟩) n cap] 22::.own rInt B 3 (.slice (some ⟨g,0,none⟩) n cap) (iL q)::cs)
set_option maxHeartbeats 4000000 in
set_option maxRecDepth 100000 in
theorem findR_any (w0 w:World)(R g B n cap:Nat)(c:Nat→Nat)(i:Nat)(p:List Nat)(cs:List Chunk)(hR:Roots n p c)(hle:∀ i,i < n→c i≤i)(hfix:∀ i,i < n→c (c i)=c i)(hi:i < n)
  (S:Mem w0 w (.loc R #[.slice (some ⟨g,0,none⟩) n cap] 22::.own rInt B 3 (.slice (some ⟨g,0,none⟩) n cap) (iL p)::cs)) :
  Calls Tryz.prog 194 #[.int .i64 i,.pointer (some ⟨R,0,none⟩)] w (FindsR w0 R g B n cap c i p cs):=by
 have HR:=Lib.hid hR;have Hle:=Lib.hid hle;have Hfix:=Lib.hid hfix;clear hR hle hfix;go_enter Tryz.func194,Tryz.ntmps194
 go_wp2_with fail
 go_loopw [0] (fun v wr=>∃ (m:Nat) (q:List Nat),m < n∧v=.int .i64 m∧Hid (c m=c i)∧Hid (Roots n q c)∧Hid (Keeps c p q)∧Mem w0 wr (.loc R #[.slice (some ⟨g,0,none⟩) n cap] 22::.own rInt B 3 (.slice (some ⟨g,0,none⟩) n cap) (iL q)::cs)) (fun v _=>(intOf v).toNat)
 case atStart=>exact ⟨i,p,hi,rfl,rfl,HR.out,fun _ h=>h,S⟩
 case round =>
  clear S HR;obtain ⟨m,q,hm,rfl,Hc,HR,HK,S⟩:=hrel;obtain ⟨s,hs⟩:∃ s,q[m]? =some s:=⟨_,List.getElem?_eq_getElem (by rw [HR.out.len];exact hm)⟩;have hln:n=(iL q).length:=by rw [iL_len,HR.out.len]
  have c0:=(S.lv 0 rfl).cell 0 _ rfl;have c1:=((S.ow 1 rfl).intAt hln m s (iL_at hs)).1;have Hln:=Lib.hid hln;have Hs:=Lib.hid hs;clear hln hs;by_cases hsm:s=m
  ·subst hsm;have hcs:c s=s:=HR.out.root Hs.out;go_wp2_with fail
   go_ret;exact ⟨q,congrArg (fun k:Nat=>Ending.returned (.int .i64 (k:Nat))) (hcs.symm.trans Hc.out),HR.out,HK.out,S⟩
  ·obtain ⟨a1,a2,_⟩:=HR.out.at' m s Hs.out;have Ha2:=Lib.hid a2;have hsn:s < m:=by omega
   obtain ⟨t,ht⟩:∃ t,q[s]? =some t:=⟨_,List.getElem?_eq_getElem (by rw [HR.out.len];omega)⟩;obtain ⟨b1,b2,_⟩:=HR.out.at' s t ht;have Hb2:=Lib.hid b2;have c2:=((S.ow 1 rfl).intAt Hln.out s t (iL_at ht)).1;have f1:=((S.ow 1 rfl).intAt Hln.out m s (iL_at Hs.out)).2;have hd1:decide ((s:Int)=(m:Int))=false:=by simp;omega
   have Ht:=Lib.hid ht;clear a2 b2 ht;have hne:((s:Int) != (m:Int))=true:=by simp;omega
   have hst:t < n:=by omega
   go_wp2_with fail
   go_region
   have S1:Mem w0 (wr.setCell ⟨g,m,none⟩ (.int .i64 t)) (.loc R #[.slice (some ⟨g,0,none⟩) n cap] 22::.own rInt B 3 (.slice (some ⟨g,0,none⟩) n cap) (iL (q.set m t))::cs):=by
    rw [iL_set];exact S.putI 1 rfl Hln.out m s t (iL_at Hs.out)
   have hd:Drewn (wr.setCell ⟨g,m,none⟩ (.int .i64 t)) _:=rfl;have S2:=S1.below (hd.below _);clear S S1 hd c0 c1 c2 f1;generalize (wr.setCell ⟨g,m,none⟩ (.int .i64 t)).drew=w2 at *;have hq:q.length=n:=HR.out.len;have hm2:(q.set m t)[m]? =some t:=List.getElem?_set_self (by omega);have c0:=(S2.lv 0 rfl).cell 0 _ rfl;have c1:=((S2.ow 1 rfl).intAt (by rw [iL_len,List.length_set];exact hq.symm) m t (iL_at hm2)).1;have Hq2:Hid (Roots n (q.set m t) c):=HR.out.halve Hs.out Ht.out;have HK2:Hid (Keeps c p (q.set m t)):=HK.out.trans (HR.out.keeps Hle.out Hfix.out Hs.out Ht.out);have Hc2:Hid (c t=c i):=(Hb2.out.trans Ha2.out).trans Hc.out;clear hq hm2 Hc HR HK Ha2 Hb2 Ht Hs Hln hne hd1;generalize q.set m t=q2 at *;go_wp2_with fail
   go_roundw
   case rel=>exact ⟨t,q2,hst,rfl,Hc2,Hq2,HK2,S2⟩
   case measure=>simp [intOf];omega
end
section
open Go Go.RowKit
def GivesBy {α:Type}(cf:α→Int)(xs:List α)(w:World)(e:Ending)(w':World):Prop :=
 ∃ (i:Nat) (b:Bool),e=.returned (.tuple #[.int .i64 i,.bool b])∧i≤xs.length∧(∀ p f,p < i→xs[p]? =some f→cf f < 0)∧(∀ p f,i≤p→xs[p]? =some f→0≤cf f)∧(b=true ↔ ∃ f,xs[i]? =some f∧cf f=0)∧Below w.heap.size w w'
theorem by_has {α:Type}{cf:α→Int}{xs:List α}{i:Nat}{b:Bool}(hlo:∀ p f,p < i→xs[p]? =some f→cf f < 0)(hhi:∀ p f,i≤p→xs[p]? =some f→0≤cf f)(hri:∀ (i j:Nat) (a c:α),i < j→xs[i]? =some a→xs[j]? =some c→cf c≤0→cf a < 0)(hb:b=true ↔ ∃ f,xs[i]? =some f∧cf f=0):b=true ↔ ∃ f∈xs,cf f=0:=by
 rw [hb];constructor
 ·rintro ⟨f,hf,h0⟩;exact ⟨f,List.mem_of_getElem? hf,h0⟩
 ·rintro ⟨f,hf,h0⟩;obtain ⟨p,hp⟩:=List.mem_iff_getElem?.1 hf;rcases Nat.lt_trichotomy p i with h | h | h
  ·have:=hlo p f h hp;omega
  ·subst h;exact ⟨f,hp,h0⟩
  ·have hi:i < xs.length:=by have:=lt_of_get hp;omega
   have h1:=hri i p xs[i] f h (List.getElem?_eq_getElem hi) hp (by omega);have h2:=hhi i xs[i] (Nat.le_refl _) (List.getElem?_eq_getElem hi);omega
def SrtI (l:List IdV):Prop:=l.Pairwise (fun a b=>cmpId a b≤0)
theorem RiseI.srt {l:List IdV}(h:RiseI l):SrtI l:=List.Pairwise.imp (fun {a b} h=>by omega) h
theorem cmpId_le_lt {a b y:IdV}(h1:cmpId a b≤0)(h2:cmpId b y < 0):cmpId a y < 0:=by
 refine Int.not_le.1 fun h=>?_;have h3:cmpId y a≤0:=by
  refine Int.not_lt.1 fun h4=>?_;have:=(cmpId_ok.anti a y).2 h4
  omega
 have h4:=cmpId_ok.trans y a b h3 h1;have h5:=(cmpId_ok.anti b y).1 h2;omega
theorem by_hasS {xs:List IdV}{y:IdV}{i:Nat}{b:Bool}(hs:SrtI xs)(hlo:∀ p f,p < i→xs[p]? =some f→cmpId f y < 0)(hhi:∀ p f,i≤p→xs[p]? =some f→0≤cmpId f y)(hb:b=true ↔ ∃ f,xs[i]? =some f∧cmpId f y=0):b=true ↔ ∃ f∈xs,cmpId f y=0:=by
 rw [hb];constructor
 ·rintro ⟨f,hf,h0⟩;exact ⟨f,List.mem_of_getElem? hf,h0⟩
 ·rintro ⟨f,hf,h0⟩;obtain ⟨p,hp⟩:=List.mem_iff_getElem?.1 hf;rcases Nat.lt_trichotomy p i with h | h | h
  ·have:=hlo p f h hp;omega
  ·subst h;exact ⟨f,hp,h0⟩
  ·have hpl:=lt_of_get hp;have hi:i < xs.length:=by omega
   obtain ⟨_,ep⟩:=List.getElem?_eq_some_iff.1 hp;have h1:=List.pairwise_iff_getElem.1 hs i p hi hpl h;rw [ep] at h1;have h2:=hhi i xs[i] (Nat.le_refl _) (List.getElem?_eq_getElem hi);have h3:=cmpId_ok.trans xs[i] f y h1 (by omega);exact ⟨xs[i],List.getElem?_eq_getElem hi,by omega⟩
set_option maxHeartbeats 4000000 in
set_option maxRecDepth 100000 in
theorem bsIdS_any (N:Nat→Prop)(A:Option Addr)(xs:List IdV)(y:IdV)(c:Nat)(w:World)(hS:Sl rId N w A xs)(hn:xs.length≤1000000)(hri:SrtI xs) :
  Calls Tryz.prog 177 #[.slice A xs.length c,.agg #[.int .i64 y.k,.string y.t],.func (.func 116) #[] #[]] w (GivesBy (fun x=>cmpId x y) xs w):=by
 have hb0:Below w.heap.size w (w.alloc (.cells #[.int .i64 y.k,.string y.t] 46)):=(Below.refl _ _).alloc (Nat.le_refl _) _;have lvY:LV _ w.heap.size _ _:=LV.new w w.heap.size #[.int .i64 y.k,.string y.t] 46 rfl;have HS:=Lib.hid (fun w' (h:Below w.heap.size w w')=>hS.keepB h);have Hri:Hid (∀ (i j:Nat) (a b:IdV),i < j→xs[i]? =some a→xs[j]? =some b→cmpId b y < 0→cmpId a y < 0):=fun i j a b hij ha hb h=>by
  obtain ⟨hi,rfl⟩:=List.getElem?_eq_some_iff.1 ha;obtain ⟨hj,rfl⟩:=List.getElem?_eq_some_iff.1 hb;exact cmpId_le_lt (List.pairwise_iff_getElem.1 hri i j hi hj hij) h
 obtain ⟨cf,Hcf⟩:∃ cf:IdV→Int,Hid ((fun x=>cmpId x y)=cf):=⟨_,Lib.hid rfl⟩;rw [Hcf.out];have Hce:Hid (∀ f,idCmp f.k f.t y.k y.t=cf f):=fun f=>by rw [← Hcf.out];rfl
 have Hri2:Hid (∀ (i j:Nat) (a b:IdV),i < j→xs[i]? =some a→xs[j]? =some b→cf b < 0→cf a < 0):=fun i j a b hij ha hb h=>by
  rw [← Hcf.out] at h ⊢;exact Hri.out i j a b hij ha hb h
 have Hb0:=Lib.hid hb0;clear hS hri Hri Hcf hb0;have Hri:=Hri2;clear Hri2;go_enter Tryz.func177,Tryz.ntmps177
 go_upto_region 1 with fail
 generalize w.alloc (.cells #[.int .i64 y.k,.string y.t] 46)=w1 at *;obtain ⟨Y,hY⟩:∃ Y,Y=w.heap.size:=⟨_,rfl⟩;rw [← hY] at lvY ⊢;clear hY;go_wp2_with fail
 go_loopw [9,10] (fun a b wr=>∃ i j:Nat,i≤j∧j≤xs.length∧a=.int .i64 i∧b=.int .i64 j∧Hid (∀ p f,p < i→xs[p]? =some f→cf f < 0)∧Hid (∀ p f,j≤p→xs[p]? =some f→0≤cf f)∧Below w1.heap.size w1 wr) (fun a b _=>(intOf b).toNat - (intOf a).toNat)
 case atStart=>exact ⟨0,xs.length,by omega,by omega,rfl,rfl,(fun p f h=>by omega),(fun p f h hp=>by rw [List.getElem?_eq_none h] at hp;cases hp),Below.refl _ _⟩
 case round =>
  obtain ⟨i,j,hij,hj,rfl,rfl,Hlo,Hhi,hbl⟩:=hrel;have Hbl:=Lib.hid hbl;have lvR:=Lib.hid (LV.kb3 lvY hbl lvY.lt);have HSr:=Lib.hid (HS.out wr (Hb0.out.trans (hbl.mono Hb0.out.size)));clear hbl;by_cases hlt:i < j
  ·obtain ⟨h,hh⟩:∃ h:Nat,h=(i + j) / 2:=⟨_,rfl⟩;have h1:i≤h:=by omega
   have h2:h < j:=by omega
   have eh:((i:Int) + (j:Int)) / 2=(h:Int):=by omega
   clear hh;obtain ⟨f,hf⟩:∃ f,xs[h]? =some f:=⟨_,List.getElem?_eq_getElem (by omega)⟩;have Hf:=Lib.hid hf;obtain ⟨blk,off,rfl,hblk,d0,d1⟩:=HSr.out.idv h f hf;obtain ⟨cm,Hcm⟩:∃ cm,Hid (cf f=cm):=⟨_,Lib.hid rfl⟩;have Hld:=Lib.hid (fun w' (h':Below wr.heap.size wr w')=>loadAtI ((h'.cell (p:=⟨blk,off + h * 2,none⟩) hblk).trans d0) ((h'.cell (p:=⟨blk,off + h * 2 + 1,none⟩) hblk).trans d1));clear d0 d1 hf;go_upto_region 5 with fail
   go_wp2_with fail
   refine wp_region_mix (fun w'=>Below wr.heap.size wr w') [(true,0),(true,1),(true,2),(true,3),(true,4),(true,5),(false,6),(true,7)] (by kernel_rfl) (by kernel_rfl) (fun w' hd=>hd.below _) (fun KK hKK wd hd_wd=>?_);have hC:=hd_wd.below wr.heap.size;clear hd_wd;refine mpR ?_;refine mix_loadH (.agg #[.int .i64 f.k,.string f.t]) rfl rfl rfl (fun w' h=>Hld.out w' h) ?_;refine mpR ?_;refine mix_loadH (.agg #[.int .i64 y.k,.string y.t]) rfl rfl rfl (fun w' h=>loadAtI ((LV.kb3 lvR.out h lvR.out.lt).cell 0 _ rfl) ((LV.kb3 lvR.out h lvR.out.lt).cell 1 _ rfl)) ?_;refine mpR ?_;refine mix_l rfl (fun K hK=>?_) hC;have Ho:=Lib.hid (compareIds_any f.k y.k f.t y.t wd);rw [show idCmp f.k f.t y.k y.t=cm from (Hce.out f).trans Hcm.out] at Ho;go_wp2_with fail
   refine (Ho.out).mono ?_;rintro e w3 ⟨rfl,hl3⟩;have hC3:=hC.trans (hl3.mono hC.size);clear Ho hl3;go_wp2_with fail
   refine ⟨hC3,?_⟩;refine mpR ?_;refine mix_nil ?_;simp only [Exit.then];refine hKK _ _ ?_;have Hb1:Hid (Below w1.heap.size w1 w3):=Hbl.out.trans (hC3.mono Hbl.out.size);clear hC3 hC Hld;by_cases hc:cm < 0
   ·have Hl:Hid (∀ p g,p < h + 1→xs[p]? =some g→cf g < 0):=fun p g hp hg=>by
     by_cases hph:p=h
     ·subst hph;rw [Hf.out] at hg;cases hg;rw [Hcm.out];exact hc
     ·exact Hri.out p h g f (by omega) hg Hf.out (by rw [Hcm.out];omega)
    go_wp2_with fail
    go_roundw
    case rel=>exact ⟨h + 1,j,by omega,by omega,by go_num,rfl,Hl.out,Hhi.out,Hb1.out⟩
    case measure=>simp [intOf];omega
   ·have Hl:Hid (∀ p g,h≤p→xs[p]? =some g→0≤cf g):=fun p g hp hg=>by
     by_cases hph:p=h
     ·subst hph;rw [Hf.out] at hg;cases hg;rw [Hcm.out];omega
     ·refine Int.not_lt.1 fun hn=>?_;have:=Hri.out h p f g (by omega) Hf.out hg (by omega)
      rw [Hcm.out] at this;exact hc this
    go_wp2_with fail
    go_roundw
    case rel=>exact ⟨i,h,by omega,by omega,rfl,rfl,Hlo.out,Hl.out,Hb1.out⟩
    case measure=>simp [intOf];omega
  ·obtain rfl:i=j:=by omega
   obtain ⟨h,hh⟩:∃ h:Nat,h=i:=⟨_,rfl⟩;by_cases hlen:h < xs.length
   ·obtain ⟨f,hf⟩:∃ f,xs[h]? =some f:=⟨_,List.getElem?_eq_getElem hlen⟩;subst hh;have Hf:=Lib.hid hf;obtain ⟨blk,off,rfl,hblk,d0,d1⟩:=HSr.out.idv h f hf;obtain ⟨cm,Hcm⟩:∃ cm,Hid (cf f=cm):=⟨_,Lib.hid rfl⟩;have Hld:=Lib.hid (fun w' (h':Below wr.heap.size wr w')=>loadAtI ((h'.cell (p:=⟨blk,off + h * 2,none⟩) hblk).trans d0) ((h'.cell (p:=⟨blk,off + h * 2 + 1,none⟩) hblk).trans d1));clear d0 d1 hf;go_upto_region 8 with fail
    go_wp2_with fail
    refine wp_region_mix (fun w'=>Below wr.heap.size wr w') [(true,0),(true,1),(true,2),(true,3),(true,4),(true,5),(true,6),(true,7),(true,8),(true,9),(true,10),(false,11),(true,12),(true,13),(true,14),(true,15)] (by kernel_rfl) (by kernel_rfl) (fun w' hd=>hd.below _) (fun KK hKK wd hd_wd=>?_);have hC:=hd_wd.below wr.heap.size;clear hd_wd;refine mpR ?_;refine mix_loadH (.agg #[.int .i64 f.k,.string f.t]) rfl rfl rfl (fun w' h=>Hld.out w' h) ?_;refine mpR ?_;refine mix_loadH (.agg #[.int .i64 y.k,.string y.t]) rfl rfl rfl (fun w' h=>loadAtI ((LV.kb3 lvR.out h lvR.out.lt).cell 0 _ rfl) ((LV.kb3 lvR.out h lvR.out.lt).cell 1 _ rfl)) ?_;refine mpR ?_;refine mix_l rfl (fun K hK=>?_) hC;have Ho:=Lib.hid (compareIds_any f.k y.k f.t y.t wd);rw [show idCmp f.k f.t y.k y.t=cm from (Hce.out f).trans Hcm.out] at Ho;go_wp2_with fail
    refine (Ho.out).mono ?_;rintro e w3 ⟨rfl,hl3⟩;have hC3:=hC.trans (hl3.mono hC.size);clear Ho hl3;go_wp2_with fail
    refine ⟨hC3,?_⟩;refine mpR ?_;refine mix_nil ?_;simp only [Exit.then];refine hKK _ _ ?_;have Hb1:Hid (Below w.heap.size w w3):=Hb0.out.trans ((Hbl.out.trans (hC3.mono Hbl.out.size)).mono Hb0.out.size);go_wp2_with fail
    go_ret2
    refine ⟨h,(cm==0),rfl,by omega,Hlo.out,Hhi.out,?_,Hb1.out⟩;rw [beq_iff_eq];exact ⟨fun h0=>⟨f,Hf.out,by rw [Hcm.out,h0]⟩,fun ⟨g,hg,h0⟩=>by rw [Hf.out] at hg;cases hg;rw [← Hcm.out,h0]⟩
   ·subst hh;have hl1:decide ((h:Int) < (xs.length:Int))=false:=by simp;omega
    go_upto_region 8 with fail
    go_wp2_with fail
    refine wp_region_mix (fun w'=>Below wr.heap.size wr w') [(true,0),(true,1),(true,2),(true,3),(true,4),(true,5),(true,6),(true,7),(true,8),(true,9),(true,10),(false,11),(true,12),(true,13),(true,14),(true,15)] (by kernel_rfl) (by kernel_rfl) (fun w' hd=>hd.below _) (fun KK hKK wd hd_wd=>?_);have hC:=hd_wd.below wr.heap.size;clear hd_wd;refine mpR ?_;refine mix_l rfl (fun K hK=>?_) hC;go_wp2_with fail
    refine ⟨hC,?_⟩;refine mpR ?_;refine mix_nil ?_;simp only [Exit.then];refine hKK _ _ ?_;go_wp2_with fail
    go_ret2
    exact ⟨h,false,rfl,by omega,Hlo.out,Hhi.out,⟨(fun h=>by cases h),(fun ⟨g,hg,_⟩=>by rw [List.getElem?_eq_none (by omega)] at hg;cases hg)⟩,Hb0.out.trans ((Hbl.out.trans (hC.mono Hbl.out.size)).mono Hb0.out.size)⟩
theorem bsId_any (N:Nat→Prop)(A:Option Addr)(xs:List IdV)(y:IdV)(c:Nat)(w:World)(hS:Sl rId N w A xs)(hn:xs.length≤1000000)(hri:RiseI xs) :
  Calls Tryz.prog 177 #[.slice A xs.length c,.agg #[.int .i64 y.k,.string y.t],.func (.func 116) #[] #[]] w (GivesBy (fun x=>cmpId x y) xs w):=bsIdS_any N A xs y c w hS hn hri.srt
end
section
open Go Go.RowKit
abbrev grCs (r:Rul)(K:Option Addr)(ck:Nat)(W:Option Addr)(cw:Nat)(S:Option Addr)(cs:Nat)(A:Option Addr)(n c X:Nat):Array Value :=
 #[.slice K r.kinds.length ck,.int .i64 r.most,.slice W r.weak.length cw,.slice S r.surv.length cs,.slice A n c,.map (some X)]
theorem zeroInts (w:World):(zeroValue 22).run Tryz.prog w=.ok (.slice none 0 0) w:=by kernel_rfl
def joinV (r:Rul)(x:IdV)(n:Nat):Bool:= !decide (x∈r.weak) && (decide (x.k∈r.kinds) && decide ((n:Int)≤r.most))
theorem loadC {P:Program}{t:TypeId}{ad:Addr}{v:Value}{w:World}(hty:(isAgg t).run P w=.ok false w)(hc:w.cell? ad=some v):(Instr.loadAt t (.pointer (some ad))).run P w=.ok v w:=by
 simp only [Instr.loadAt,Instr.sureAddr,loadVar,Sem.run_bind,Sem.run_pure,Result.andThen_ok,hty,Bool.false_eq_true,if_false];simp [load,Sem.run,hc]
set_option maxHeartbeats 4000000 in
set_option maxRecDepth 100000 in
theorem joins_any (N:Nat→Prop)(G X:Nat)(r:Rul)(K W S A:Option Addr)(ck cw cs n c:Nat)(L:List (IdV×Value))(x:IdV)(A':Option Addr)(n' c':Nat)(w:World)(hG:LV w G (grCs r K ck W cw S cs A n c X) 180)(hR:RulIn N w r K W S)(hM:MapG keyId w X L)
  (hx:(getG x L).getD (.slice none 0 0)=.slice A' n' c') (hw:SrtI r.weak) (hwl:r.weak.length≤1000000) (hkl:r.kinds.length≤1000000) :
  Calls Tryz.prog 195 #[.pointer (some ⟨G,0,none⟩),.agg #[.int .i64 x.k,.string x.t]] w fun e w'=>e=.returned (.bool (joinV r x n'))∧Below w.heap.size w w':=by
 have hb0:Below w.heap.size w (w.alloc (.cells #[.int .i64 x.k,.string x.t] 46)):=(Below.refl _ _).alloc (Nat.le_refl _) _;have Hb0:=Lib.hid hb0;have lvX:LV _ w.heap.size _ _:=LV.new w w.heap.size #[.int .i64 x.k,.string x.t] 46 rfl;have HM:Hid (∀ w',Below w.heap.size w w'→MapG keyId w' X L):=fun w' h=>by
  obtain ⟨es,cl,hb,he⟩:=hM;exact ⟨es,cl,(h.block X (Array.getElem?_eq_some_iff.1 hb).1).trans hb,he⟩
 have HG:=Lib.hid (fun w' (h:Below w.heap.size w w')=>(LV.kb3 hG h hG.lt));have Hbs:=Lib.hid (fun w' (h:Below w.heap.size w w')=>bsIdS_any N W r.weak x cw w' (hR.wk.keepB h) hwl hw);have Hct:=Lib.hid (fun w' (h:Below w.heap.size w w')=>containsInt_any N K r.kinds ck r.kinds.length x.k w' (hR.kd.keepB h) (Nat.le_refl _) hkl);have Hri:=Lib.hid hw;obtain ⟨R,HR⟩:∃ R,Hid (joinV r x n'=R):=⟨_,Lib.hid rfl⟩;rw [HR.out];have Hx:=Lib.hid hx;clear hb0 hG hR hM hx hw;go_enter Tryz.func195,Tryz.ntmps195
 go_upto_region 1 with fail
 generalize w.alloc (.cells #[.int .i64 x.k,.string x.t] 46)=w1 at *;obtain ⟨Y,hY⟩:∃ Y,Y=w.heap.size:=⟨_,rfl⟩;rw [← hY] at lvX ⊢;clear hY;have z0:=(HG.out _ Hb0.out).all;have y0:=lvX.all;have hbM:=Hb0.out.size;have HG1:Hid (∀ w',Below w1.heap.size w1 w'→LV w' G (grCs r K ck W cw S cs A n c X) 180):=fun w' h=>HG.out w' (Hb0.out.trans (h.mono hbM));have HX1:Hid (∀ w',Below w1.heap.size w1 w'→LV w' Y #[.int .i64 x.k,.string x.t] 46):=fun w' h=>LV.kb3 lvX h lvX.lt;have HM1:Hid (∀ w',Below w1.heap.size w1 w'→MapG keyId w' X L):=fun w' h=>HM.out w' (Hb0.out.trans (h.mono hbM));have Hbs1:=Lib.hid (fun w' (h:Below w1.heap.size w1 w')=>Hbs.out w' (Hb0.out.trans (h.mono hbM)));have Hct1:=Lib.hid (fun w' (h:Below w1.heap.size w1 w')=>Hct.out w' (Hb0.out.trans (h.mono hbM)));have HbM:=Lib.hid hbM;clear HG HM Hbs Hct lvX hbM;go_wp2_with fail
 refine wp_region_mix (fun w'=>Below w1.heap.size w1 w') [(true,0),(true,1),(true,2),(true,3),(true,4),(true,5),(false,6),(true,7),(true,8),(true,9),(true,10),(true,11)] (by kernel_rfl) (by kernel_rfl) (fun w' hd=>hd.below _) (fun KK hKK wd hd_wd=>?_);have hC:=hd_wd.below w1.heap.size;clear hd_wd;refine mpR ?_;refine mix_loadH (.slice W r.weak.length cw) rfl rfl rfl (fun w' h=>loadC rfl ((HG1.out w' h).cell 2 _ rfl)) ?_;refine mpR ?_;refine mix_loadH (.agg #[.int .i64 x.k,.string x.t]) rfl rfl rfl (fun w' h=>loadAtI ((HX1.out w' h).cell 0 _ rfl) ((HX1.out w' h).cell 1 _ rfl)) ?_;refine mpR ?_;refine mix_l rfl (fun K hK=>?_) hC;have Ho:=Lib.hid (Hbs1.out wd hC);go_wp2_with fail
 refine (Ho.out).mono ?_;rintro e w2 ⟨i,b,rfl,hil,hlo,hhi,hb,hl2⟩;have hC2:=hC.trans (hl2.mono hC.size);have hw:b=true ↔ ∃ f∈r.weak,cmpId f x=0:=by_hasS Hri.out hlo hhi hb;clear Ho hl2 hil hlo hhi hb hC;go_wp2_with fail
 refine ⟨hC2,?_⟩;refine mpR ?_;refine mix_nil ?_;simp only [Exit.then];refine hKK _ _ ?_;clear hKK KK;have HC2:=Lib.hid hC2;clear hC2;have hwx:b=true ↔ x∈r.weak:=by
  rw [hw];constructor
  ·rintro ⟨f,hf,h0⟩;rw [← cmpId_zero h0];exact hf
  ·exact fun h=>⟨x,h,cmpId_ok.refl x⟩
 have hsz2:=HC2.out.size;have HG2:Hid (∀ w',Below w2.heap.size w2 w'→LV w' G (grCs r K ck W cw S cs A n c X) 180):=fun w' h=>HG1.out w' (HC2.out.trans (h.mono hsz2));have HX2:Hid (∀ w',Below w2.heap.size w2 w'→LV w' Y #[.int .i64 x.k,.string x.t] 46):=fun w' h=>HX1.out w' (HC2.out.trans (h.mono hsz2));have Hlk:Hid (∀ w',Below w2.heap.size w2 w'→(Instr.lookup 178 (.map (some X)) (.agg #[.int .i64 x.k,.string x.t]) false).run Tryz.prog w'=.ok (.slice A' n' c') w'):=fun w' h=>by
  have h1:=look_g (K:=keyId) (T:=178) (E:=22) (HM1.out w' (HC2.out.trans (h.mono hsz2))) (by kernel_rfl) (zeroInts w') x false;rw [if_neg (by decide),Hx.out] at h1;exact h1
 have Hct2:=Lib.hid (fun w' (h:Below w2.heap.size w2 w')=>Hct1.out w' (HC2.out.trans (h.mono hsz2)));have hkt:r.kinds.take r.kinds.length=r.kinds:=List.take_length;rw [hkt] at Hct2;obtain ⟨kc,hkc⟩:∃ kc,r.kinds.contains x.k=kc:=⟨_,rfl⟩;rw [hkc] at Hct2;have HR2:Hid ((!b && (kc && decide ((n':Int)≤r.most)))=R):=by
  show _=_;have e1:decide (x∈r.weak)=b:=by cases b <;> simp_all
  have e2:decide (x.k∈r.kinds)=kc:=by rw [← hkc];simp
  rw [← HR.out,joinV,e1,e2]
 clear HG1 HX1 HM1 Hbs1 Hct1 hw hwx hkt hkc HR Hri Hx hsz2 z0 y0;cases b
 ·cases kc
  ·have Hr:Hid (false=R):=HR2.out;clear HR2;go_wp2_with fail
   refine wp_region_mix (fun w'=>Below w2.heap.size w2 w') [(true,0),(true,1),(true,2),(true,3),(true,4),(true,5),(true,6),(true,7),(true,8),(true,9),(false,10),(true,11),(true,12),(true,13),(true,14),(true,15),(true,16),(true,17),(true,20),(true,21),(true,22),(true,23),(true,24),(false,18),(true,19),(true,25),(true,26),(true,27)] (by kernel_rfl) (by kernel_rfl) (fun w' hd=>hd.below _) (fun KK hKK wd hd_wd=>?_);have hC:=hd_wd.below w2.heap.size;clear hd_wd;refine mpR ?_;refine mix_loadH (.slice K r.kinds.length ck) rfl rfl rfl (fun w' h=>loadC rfl ((HG2.out w' h).cell 0 _ rfl)) ?_;refine mpR ?_;refine mix_loadH (.int .i64 x.k) rfl rfl rfl (fun w' h=>loadC rfl ((HX2.out w' h).cell 0 _ rfl)) ?_;refine mpR ?_;refine mix_l rfl (fun K hK=>?_) hC;have Ho:=Lib.hid (Hct2.out wd hC);go_wp2_with fail
   refine (Ho.out).mono ?_;rintro e w3 ⟨rfl,rfl⟩;clear Ho;go_wp2_with fail
   refine ⟨hC,?_⟩;refine mpR ?_;refine mix_l rfl (fun K hK=>?_) hC;go_wp2_with fail
   refine ⟨hC,?_⟩;refine mpR ?_;refine mix_nil ?_;simp only [Exit.then];refine hKK _ _ ?_;clear hKK KK;go_wp2_with fail
   go_ret;exact ⟨congrArg (fun b=>Ending.returned (.bool b)) Hr.out,Hb0.out.trans ((HC2.out.trans (hC.mono HC2.out.size)).mono HbM.out)⟩
  ·have Hr:Hid (decide ((n':Int)≤r.most)=R):=by show _=_;rw [← HR2.out];rfl
   clear HR2;go_wp2_with fail
   refine wp_region_mix (fun w'=>Below w2.heap.size w2 w') [(true,0),(true,1),(true,2),(true,3),(true,4),(true,5),(true,6),(true,7),(true,8),(true,9),(false,10),(true,11),(true,12),(true,13),(true,14),(true,15),(true,16),(true,17),(true,20),(true,21),(true,22),(true,23),(true,24),(false,18),(true,19),(true,25),(true,26),(true,27)] (by kernel_rfl) (by kernel_rfl) (fun w' hd=>hd.below _) (fun KK hKK wd hd_wd=>?_);have hC:=hd_wd.below w2.heap.size;clear hd_wd;refine mpR ?_;refine mix_loadH (.slice K r.kinds.length ck) rfl rfl rfl (fun w' h=>loadC rfl ((HG2.out w' h).cell 0 _ rfl)) ?_;refine mpR ?_;refine mix_loadH (.int .i64 x.k) rfl rfl rfl (fun w' h=>loadC rfl ((HX2.out w' h).cell 0 _ rfl)) ?_;refine mpR ?_;refine mix_l rfl (fun K hK=>?_) hC;have Ho:=Lib.hid (Hct2.out wd hC);go_wp2_with fail
   refine (Ho.out).mono ?_;rintro e w3 ⟨rfl,rfl⟩;clear Ho;go_wp2_with fail
   refine ⟨hC,?_⟩;refine mpR ?_;refine mix_loadH (.map (some X)) rfl rfl rfl (fun w' h=>loadC rfl ((HG2.out w' h).cell 5 _ rfl)) ?_;refine mpR ?_;refine mix_loadH (.agg #[.int .i64 x.k,.string x.t]) rfl rfl rfl (fun w' h=>loadAtI ((HX2.out w' h).cell 0 _ rfl) ((HX2.out w' h).cell 1 _ rfl)) ?_;refine mpR ?_;refine mix_loadH (.int .i64 r.most) rfl rfl rfl (fun w' h=>loadC rfl ((HG2.out w' h).cell 1 _ rfl)) ?_;refine mpR ?_;refine mix_l rfl (fun K hK=>?_) hC;have hlk:=Hlk.out wd hC;go_wp2_with fail
   refine ⟨hC,?_⟩;clear hlk;refine mpR ?_;refine mix_nil ?_;simp only [Exit.then];refine hKK _ _ ?_;clear hKK KK;go_wp2_with fail
   go_ret;exact ⟨congrArg (fun b=>Ending.returned (.bool b)) Hr.out,Hb0.out.trans ((HC2.out.trans (hC.mono HC2.out.size)).mono HbM.out)⟩
 ·have Hr:Hid (false=R):=HR2.out;clear HR2;go_wp2_with fail
  refine wp_region_mix (fun w'=>Below w2.heap.size w2 w') [(true,0),(true,1),(true,2),(true,3),(true,4),(true,5),(true,6),(true,7),(true,8),(true,9),(false,10),(true,11),(true,12),(true,13),(true,14),(true,15),(true,16),(true,17),(true,20),(true,21),(true,22),(true,23),(true,24),(false,18),(true,19),(true,25),(true,26),(true,27)] (by kernel_rfl) (by kernel_rfl) (fun w' hd=>hd.below _) (fun KK hKK wd hd_wd=>?_);have hC:=hd_wd.below w2.heap.size;clear hd_wd;refine mpR ?_;refine mix_l rfl (fun K hK=>?_) hC;go_wp2_with fail
  refine ⟨hC,?_⟩;refine mpR ?_;refine mix_l rfl (fun K hK=>?_) hC;go_wp2_with fail
  refine ⟨hC,?_⟩;refine mpR ?_;refine mix_nil ?_;simp only [Exit.then];refine hKK _ _ ?_;clear hKK KK;go_wp2_with fail
  go_ret;exact ⟨congrArg (fun b=>Ending.returned (.bool b)) Hr.out,Hb0.out.trans ((HC2.out.trans (hC.mono HC2.out.size)).mono HbM.out)⟩
end
section
open Go Go.RowKit Go.MapKept
section
variable {κ:Type} [DecidableEq κ]
def EntG (K:KeyL κ)(w:World)(X:Nat)(L:List (κ×Value))(k:κ)(st:Nat):Prop :=
 ∃ (es:Array MapEntry) (clock j:Nat) (e:MapEntry),w.heap[X]? =some (.map es clock)∧EsOk K es clock L∧es.toList[j]? =some e∧L[j]? =some (k,e.val)∧e.born=st
def Chunk.ent (K:KeyL κ)(X:Nat)(L:List (κ×Value))(k:κ)(st:Nat):Chunk :=
 ⟨some X,fun _ w=>EntG K w X L k st,fun h _ hd ⟨es,c,j,e,h1,h2⟩=>⟨es,c,j,e,(h.block X (Array.getElem?_eq_some_iff.1 h1).1 (hd X rfl)).trans h1,h2⟩,fun _ h=>h,fun ⟨_,_,_,_,h,_⟩ k e=>by cases e;exact (Array.getElem?_eq_some_iff.1 h).1⟩
theorem modify_set {es:Array MapEntry}{j:Nat}{e:MapEntry}(f:MapEntry→MapEntry)(he:es.toList[j]? =some e):(es.modify j f).toList=es.toList.set j (f e):=by
 rw [Array.toList_modify];apply List.ext_getElem?;intro i;rw [List.getElem?_modify,List.getElem?_set];by_cases hij:j=i
 ·subst hij;rw [if_pos rfl,he,if_pos (lt_of_get he)];simp
 ·rw [if_neg hij];simp [hij]
omit [DecidableEq κ] in
theorem EsOk.put {K:KeyL κ}{es es':Array MapEntry}{clock:Nat}{L:List (κ×Value)}(h:EsOk K es clock L){j:Nat}{e:MapEntry}{k:κ}{u:Value}(he:es.toList[j]? =some e)(hk:L[j]? =some (k,e.val))(hes:es'.toList=es.toList.set j { e with key:=K.kv k,val:=u }):EsOk K es' clock (L.set j (k,u)):=by
 refine ⟨?_,?_,fun x hx=>?_,?_⟩
 ·rw [hes,List.map_set,h.kv,List.map_set]
 ·rw [List.map_set];have:(L.map Prod.fst).set j k=L.map Prod.fst:=by
   apply List.ext_getElem?;intro i;rw [List.getElem?_set];by_cases e3:j=i
   ·subst e3;have hj:=lt_of_get hk;rw [if_pos rfl,List.getElem?_map,hk,if_pos (by rw [List.length_map];exact hj)];rfl
   ·rw [if_neg e3]
  rw [this];exact h.nd
 ·rw [hes] at hx;rcases List.mem_or_eq_of_mem_set hx with hx | rfl
  ·exact h.lt x hx
  ·exact h.lt e (List.mem_of_getElem? he)
 ·rw [hes,List.map_set];have:(es.toList.map MapEntry.born).set j e.born=es.toList.map MapEntry.born:=by
   apply List.ext_getElem?;intro i;rw [List.getElem?_set];by_cases hij:j=i
   ·subst hij;have hj:=lt_of_get he;rw [if_pos rfl,List.getElem?_map,he,if_pos (by rw [List.length_map];exact hj)];rfl
   ·rw [if_neg hij]
  rw [this];exact h.bn
theorem entry_g {K:KeyL κ}{w:World}{X:Nat}{L:List (κ×Value)}{T E:TypeId}(h:MapG K w X L)(hT:Tryz.prog.underlying T=some (.map K.ty E)){z:Value}(hz:(zeroValue E).run Tryz.prog w=.ok z w)(k:κ) :
  ∃ w' st,(Instr.mapEntry T (.map (some X)) (K.kv k)).run Tryz.prog w=.ok (.tuple #[(getG k L).getD z,.int .i64 (st:Nat)]) w'∧EntG K w' X (updG k ((getG k L).getD z) L) k st∧w.grownBy w' (some X):=by
 obtain ⟨es,clock,hb,he⟩:=h;have hck:=K.chk false k w;have gr:∀ o,w.grownBy { w with heap:=w.heap.setIfInBounds X o } (some X):=fun o=>⟨rfl,rfl,rfl,by simp,fun j hj hne=>(heap_set hb).2 j (fun e=>hne (by rw [e]))⟩;obtain ⟨r,hr,hc⟩:=K.find k es.toList (L.map Prod.fst) w he.keys;rcases hc with ⟨h4,rfl⟩ | ⟨j,e,h4,h5,rfl⟩
 ·have hg:=getG_none.2 h4;refine ⟨{ w with heap:=w.heap.setIfInBounds X (.map (es.push ⟨K.kv k,z,clock⟩) (clock + 1)) },clock,?_,⟨_,_,es.size,⟨K.kv k,z,clock⟩,(heap_set hb).1,?_,?_,?_,rfl⟩,gr _⟩
  ·simp [Instr.mapEntry,run_underlying hT,Go.MapKept.run_getObj_map hb,hck,hr,hz,hg,run_setObj_map _ hb,Result.andThen,goInt]
  ·rw [hg,Option.getD_none];refine ⟨?_,updG_keys he.nd,fun x hx=>?_,?_⟩
   ·rw [Array.toList_push,List.map_append,he.kv,updG_new h4,List.map_append];rfl
   ·rw [Array.toList_push,List.mem_append] at hx;rcases hx with hx | hx
    ·have:=he.lt x hx;omega
    ·rw [List.mem_singleton.1 hx];exact Nat.lt_succ_self _
   ·rw [Array.toList_push,List.map_append,List.nodup_append];refine ⟨he.bn,by simp,fun a ha b hb'=>?_⟩;obtain ⟨x,hx,rfl⟩:=List.mem_map.1 ha;have h6:=he.lt x hx;simp at hb';omega
  ·rw [Array.toList_push,List.getElem?_append_right (by simp)];simp
  ·rw [hg,Option.getD_none,updG_new h4];have hl:L.length=es.size:=by
    have:=congrArg List.length he.kv
    simpa using this.symm
   rw [List.getElem?_append_right (by omega),hl,Nat.sub_self];rfl
 ·obtain ⟨a1,a2⟩:=he.at' h4 h5;have h3':es[j]? =some e:=by rw [← Array.getElem?_toList];exact h4
  have hs:=K.same k;have hg:=(getG_at he.nd a1).1;have hm:=modify_set (fun e=>{ e with key:=K.kv k }) h4;have heq:({ e with key:=K.kv k }:MapEntry)={ e with key:=K.kv k,val:=e.val }:=rfl;refine ⟨{ w with heap:=w.heap.setIfInBounds X (.map (es.modify j fun e=>{ e with key:=K.kv k }) clock) },e.born,?_,⟨_,_,j,{ e with key:=K.kv k },(heap_set hb).1,?_,?_,?_,rfl⟩,gr _⟩
  ·simp [Instr.mapEntry,run_underlying hT,Go.MapKept.run_getObj_map hb,hck,hr,hg,run_setObj_map _ hb,Result.andThen,h3',a2,Instr.keyThatStays,hs,goInt]
  ·rw [hg,Option.getD_some,(getG_at he.nd a1).2 e.val];exact he.put h4 a1 (by rw [hm])
  ·rw [hm,List.getElem?_set_self (lt_of_get h4)]
  ·rw [hg,Option.getD_some,(getG_at he.nd a1).2 e.val,List.getElem?_set_self (lt_of_get a1)]
theorem estore_g {K:KeyL κ}{w:World}{X:Nat}{L:List (κ×Value)}{k:κ}{st:Nat}(h:EntG K w X L k st)(T:TypeId)(u:Value) :
  ∃ w',(Instr.entryStore T (.map (some X)) (.int .i64 (st:Nat)) u).run Tryz.prog w=.ok () w'∧MapG K w' X (updG k u L)∧w.grownBy w' (some X):=by
 obtain ⟨es,clock,j,e,hb,he,h4,h5,rfl⟩:=h;have gr:∀ o,w.grownBy { w with heap:=w.heap.setIfInBounds X o } (some X):=fun o=>⟨rfl,rfl,rfl,by simp,fun j hj hne=>(heap_set hb).2 j (fun e=>hne (by rw [e]))⟩;have hfi:es.findIdx? (fun x=>(x.born:Int)==(e.born:Int))=some j:=by
  rw [show es.findIdx? (fun x=>(x.born:Int)==(e.born:Int))=es.toList.findIdx? (fun x=>(x.born:Int)==(e.born:Int)) by rw [← List.findIdx?_toArray],List.findIdx?_eq_some_iff_getElem];obtain ⟨hj,hje⟩:=List.getElem?_eq_some_iff.1 h4;refine ⟨hj,by rw [hje];simp,fun i hij=>?_⟩;simp only [beq_iff_eq,Int.natCast_inj];intro h6;have hn:=List.pairwise_iff_getElem.1 he.bn i j (by rw [List.length_map];omega) (by rw [List.length_map];exact hj) hij;apply hn;rw [List.getElem_map,List.getElem_map,hje];exact h6
 have hk:e.key=K.kv k:=by
  have h1:=congrArg (fun l=>l[j]?) he.kv;simp only [List.getElem?_map,h4,h5,Option.map_some,Option.some.injEq,Prod.mk.injEq] at h1;exact h1.1
 have hm:=modify_set (fun e=>{ e with val:=u }) h4;refine ⟨{ w with heap:=w.heap.setIfInBounds X (.map (es.modify j fun e=>{ e with val:=u }) clock) },?_,⟨_,_,(heap_set hb).1,?_⟩,gr _⟩
 ·have ha:∀ (i:Int) (w:World),(asInt (.int .i64 i)).run Tryz.prog w=.ok i w:=fun _ _=>rfl;simp [Instr.entryStore,Go.MapKept.run_getObj_map hb,ha,hfi,run_setObj_map _ hb,Result.andThen]
 ·rw [(getG_at he.nd h5).2 u];refine he.put h4 h5 ?_;rw [hm,← hk]
end
section
variable {κ:Type} [DecidableEq κ] {w0 w:World} {cs:List Chunk} {ops:Array Oper} {rest:List Oper} {o:Oper} {a:Act} {Q:Exit→Act→World→Prop}
theorem Mem.entryG {K:KeyL κ}(S:Mem w0 w cs)(i:Nat){X:Nat}{L:List (κ×Value)}(hi:cs[i]? =some (.mapG K X L)){T E:TypeId}(hT:Tryz.prog.underlying T=some (.map K.ty E)){z:Value}(hz:∀ w,(zeroValue E).run Tryz.prog w=.ok z w)
  (hgd:o.guard=none) (m x:Operand) (hop:o.op=.mapEntry T m x) (hm:a.eval m=.map (some X)) (y:κ) (hx:a.eval x=K.kv y)
  (h:∀ (st:Nat) w',Mem w0 w' (cs.set i (.ent K X (updG y ((getG y L).getD z) L) y st))→w.heap.size≤w'.heap.size→wpList Tryz.prog ops Q rest (a.put o.dst (.tuple #[(getG y L).getD z,.int .i64 (st:Nat)])) w'):wpList Tryz.prog ops Q (o::rest) a w:=by
 obtain ⟨w',st,hrun,hm',hgr⟩:=entry_g (S.ok _ (List.mem_of_getElem? hi)) hT (hz w) y;have hX:=S.new _ (List.mem_of_getElem? hi) X rfl;have hbl:Below w0.heap.size w w':=(Below.refl _ w).grown hgr S.b.size (fun k hk=>by cases hk;exact hX);have S2:=S.upd i hi (.ent K X (updG y ((getG y L).getD z) L) y st) ⟨hgr.size,fun k hk hn=>hgr.block k hk (fun e=>hn e.symm)⟩ (S.b.trans hbl) (fun k e=>.inl e) hm';refine wpList_plain hgd fun K' hK'=>?_;unfold Oper.wp;simp [execOp,hop,hm,hx,hrun,Result.andThen];exact hK' _ _ (h st w' S2 hgr.size)
theorem Mem.estoreG {K:KeyL κ}(S:Mem w0 w cs)(i:Nat){X:Nat}{L:List (κ×Value)}{y:κ}{st:Nat}(hi:cs[i]? =some (.ent K X L y st)){T:TypeId}
  (hgd:o.guard=none) (m x v:Operand) (hop:o.op=.entryStore T m x v) (hm:a.eval m=.map (some X)) (hx:a.eval x=.int .i64 (st:Nat)) (u:Value) (hv:a.eval v=u)
  (h:∀ w',Mem w0 w' (cs.set i (.mapG K X (updG y u L)))→wpList Tryz.prog ops Q rest (a.put o.dst undef) w'):wpList Tryz.prog ops Q (o::rest) a w:=by
 obtain ⟨w',hrun,hm',hgr⟩:=estore_g (S.ok _ (List.mem_of_getElem? hi)) T u;have hX:=S.new _ (List.mem_of_getElem? hi) X rfl;have hbl:Below w0.heap.size w w':=(Below.refl _ w).grown hgr S.b.size (fun k hk=>by cases hk;exact hX);have S2:=S.upd i hi (.mapG K X (updG y u L)) ⟨hgr.size,fun k hk hn=>hgr.block k hk (fun e=>hn e.symm)⟩ (S.b.trans hbl) (fun k e=>.inl e) hm';refine wpList_plain hgd fun K' hK'=>?_;unfold Oper.wp;simp [execOp,hop,hm,hx,hv,hrun,Result.andThen];exact hK' _ _ (h w' S2)
end
end
section
open Go Go.RowKit
theorem hq_step (qs:List HQ)(hn:(qs.map HQ.x).Nodup)(x:IdV):∃ (qs1:List HQ) (j:Nat) (q:HQ),qs1[j]? =some q∧q.x=x∧(qs1.map HQ.x).Nodup∧(getG x (qs.map HQ.kv)).getD (.slice none 0 0)=q.v∧updG x q.v (qs.map HQ.kv)=qs1.map HQ.kv ∧
  (getG x (qs.map HQ.kl)).getD []=q.js∧(∀ u,updG x u (qs.map HQ.kl)=updG x u (qs1.map HQ.kl))∧∀ (B:Nat) (w0 w:World) (cs:List Chunk),Mem w0 w (cs++qs.map (hq B))→Mem w0 w (cs++qs1.map (hq B)):=by
 rcases hq_cases qs hn x with ⟨h1,h2,h3⟩ | ⟨j,q,h1,h2,h3,h4⟩
 ·have hn1:((qs++[(⟨x,none,0,[]⟩:HQ)]).map HQ.x).Nodup:=by
   rw [List.map_append,List.nodup_append];refine ⟨hn,by simp,fun a ha b hb e=>?_⟩;simp only [List.map_cons,List.map_nil,List.mem_singleton] at hb;subst hb;subst e;exact h1 ha
  have hj:(qs++[(⟨x,none,0,[]⟩:HQ)])[qs.length]? =some ⟨x,none,0,[]⟩:=by simp
  refine ⟨qs++[⟨x,none,0,[]⟩],qs.length,⟨x,none,0,[]⟩,hj,rfl,hn1,by rw [h2];rfl,(upd_new (q:=⟨x,none,0,[]⟩) h1).1,by rw [h3];rfl,fun u=>?_,fun B w0 w cs S=>?_⟩
  ·have e1:=(upd_new (q:=⟨x,none,0,u⟩) h1).2;have e2:=(upd_old (q':=⟨x,none,0,u⟩) hn1 hj rfl).2;rw [show (qs++[(⟨x,none,0,[]⟩:HQ)]).set qs.length ⟨x,none,0,u⟩=qs++[⟨x,none,0,u⟩] by rw [List.set_append_right _ _ (Nat.le_refl _)];simp] at e2;exact e1.trans e2.symm
  ·have S1:=S.nil rInt B 3;rw [List.append_assoc] at S1;rw [List.map_append];exact S1
 ·subst h2;refine ⟨qs,j,q,h1,rfl,hn,by rw [h3];rfl,?_,by rw [h4];rfl,fun u=>rfl,fun _ _ _ _ S=>S⟩;rw [(upd_old hn h1 rfl).1];congr 1
  apply List.ext_getElem?;intro i;rw [List.getElem?_set];by_cases e:j=i
  ·subst e;rw [if_pos rfl,if_pos (lt_of_get h1),h1]
  ·rw [if_neg e]
theorem hq_add {qs qs1:List HQ}{j:Nat}{q:HQ}{x:IdV}(hj:qs1[j]? =some q)(hx:q.x=x)(hn:(qs1.map HQ.x).Nodup)(h1:(getG x (qs.map HQ.kl)).getD []=q.js)(h2:∀ u,updG x u (qs.map HQ.kl)=updG x u (qs1.map HQ.kl))(A:Option Addr)(c i:Nat) :
  updG x (HQ.v ⟨q.x,A,c,q.js++[i]⟩) (qs1.map HQ.kv)=(qs1.set j ⟨q.x,A,c,q.js++[i]⟩).map HQ.kv∧addH (qs.map HQ.kl) i x=(qs1.set j ⟨q.x,A,c,q.js++[i]⟩).map HQ.kl:=by
 subst hx;have h:=upd_old (q':=⟨q.x,A,c,q.js++[i]⟩) hn hj rfl;exact ⟨h.1,by unfold addH;rw [h1,h2];exact h.2⟩
end
end Go.Proofs.YtmkkppknaikjjaaGreatDoor
