/- Several texts in one: MakeI, Nest, CloneI, GenRul. -/
import Derived.Test.YtmkkppknaikjjaaGreatDoorPixM
import Derived.Test.YtmkkppknaikjjaaGreatDoorPixZ
import Derived.Test.YtmkkppknaikjjaaGreatDoorPixR
import Derived.Test.YtmkkppknaikjjaaGreatDoorPixJ
import Derived.Lib.SliceRun
import Derived.Test.YtmkkppknaikjjaaGreatDoorPixG
import Derived.Deep.DeepCutAuto
/- Slices of numbers that a call makes and writes. -/
namespace Go.Proofs.YtmkkppknaikjjaaGreatDoor
section
open Go Go.RowKit
theorem tyIntP:STy 22 3 rInt.size 8 (.int .i64 0):=⟨Tryz.underlying22,by kernel_rfl,rfl,by decide⟩
theorem madeI (n:Nat):madeCells (Value.int .i64 0).cells ((n:Int).toNat * rInt.size)=(List.replicate n (Value.int .i64 0)).toArray:=by
 rw [Int.toNat_natCast,show n * rInt.size=n by simp [rInt,Rep.flat]];apply Array.ext
 ·simp [madeCells]
 ·intro i h1 h2;simp [madeCells,Value.cells,Nat.mod_one]
theorem makeI (n:Nat)(hn:n≤1000000)(w:World):(Instr.makeSlice 22 (.int .i64 n) (.int .i64 n)).run Tryz.prog w=.ok (.slice (some ⟨w.heap.size,0,none⟩) n n) (w.alloc (.cells (Array.replicate n (Value.int .i64 0)) 3)):=by
 obtain ⟨i,hi,hz0,hz1,hz2⟩:=info_parts tyIntP.info;have h:=run_makeSlice (P:=Tryz.prog) w 22 3 i _ tyIntP.under hi hz0 .i64 .i64 n n (by omega) (by omega) (by rw [hz1,Int.toNat_natCast,show n * rInt.size=n by simp [rInt,Rep.flat]];omega) (by rw [hz2];omega) (by omega);rw [hz1,madeI n,Int.toNat_natCast,List.toArray_replicate] at h;exact h
theorem Mem.putI {w0 w:World}{cs:List Chunk}(S:Mem w0 w cs)(i:Nat){B E g n cap:Nat}{xs:List Int}(hi:cs[i]? =some (.own rInt B E (.slice (some ⟨g,0,none⟩) n cap) xs))(hn:n=xs.length)(k:Nat)(x x':Int)(hx:xs[k]? =some x):Mem w0 (w.setCell ⟨g,k,none⟩ (.int .i64 x')) (cs.set i (.own rInt B E (.slice (some ⟨g,0,none⟩) n cap) (xs.set k x'))):=by
 have:=S.put flatInt i hi hn k x x' hx 0 (by decide) (.int .i64 x') rfl
 rw [show k * rInt.size + 0=k by simp [rInt,Rep.flat]] at this;exact this
theorem Own.intAt {M:Nat→Prop}{B E g n cap:Nat}{w:World}{xs:List Int}(h:Own rInt M B E w (.slice (some ⟨g,0,none⟩) n cap) xs)(hn:n=xs.length)(k:Nat)(x:Int)(hk:xs[k]? =some x):w.cell? ⟨g,k,none⟩=some (.int .i64 x)∧w.frozen? ⟨g,k,none⟩=false:=by
 have:=h.cellP flatInt hn k x hk 0 _ rfl
 rw [show k * rInt.size + 0=k by simp [rInt,Rep.flat]] at this;exact this
end
section
open Go.RowKit
def IsNest (T:TypeId)(B n:Nat)(P:Value→World→Prop)(v:Value)(w:World):Prop:=∃ (blk:Nat) (vs:List Value),vs.length=n∧v=.slice (some ⟨blk,0,none⟩) n n∧LV w blk vs.toArray T∧B≤blk∧∀ u∈vs,P u w
def IsAt (T:TypeId)(B:Nat)(P:Value→World→Prop)(v:Value)(w:World):Prop:=∃ (blk k:Nat) (vs:List Value),k < vs.length∧v=.pointer (some ⟨blk,k,none⟩)∧LV w blk vs.toArray T∧B≤blk∧∀ u∈vs,P u w
def PI (B:Nat)(u:Value)(w:World):Prop:=∃ zs:List Int,zs.length≤4∧IsInts B u zs w
theorem PI.keep {b B:Nat}{u:Value}{w w':World}(h:PI B u w)(k:SK b w w')(hb:b < B):PI B u w':=by obtain ⟨zs,h1,h2⟩:=h;exact ⟨zs,h1,h2.keep k hb⟩
theorem PI.form {B:Nat}{u:Value}{w:World}(h:PI B u w):∃ A n c,u=.slice A n c:=by
 obtain ⟨zs,_,⟨_,rfl⟩ | ⟨blk,rfl,_⟩⟩:=h
 ·exact ⟨_,_,_,rfl⟩
 ·exact ⟨_,_,_,rfl⟩
theorem IsNest.keep {T:TypeId}{b B n:Nat}{P:Value→World→Prop}{v:Value}{w w':World}(hP:∀ u,P u w→P u w')(h:IsNest T B n P v w)(k:SK b w w')(hb:b < B):IsNest T B n P v w':=by
 obtain ⟨blk,vs,h1,h2,h3,h4,h5⟩:=h;exact ⟨blk,vs,h1,h2,h3.keep k (by omega),h4,fun u hu=>hP u (h5 u hu)⟩
theorem IsAt.keep {T:TypeId}{b B:Nat}{P:Value→World→Prop}{v:Value}{w w':World}(hP:∀ u,P u w→P u w')(h:IsAt T B P v w)(k:SK b w w')(hb:b < B):IsAt T B P v w':=by
 obtain ⟨blk,i,vs,h1,h2,h3,h4,h5⟩:=h;exact ⟨blk,i,vs,h1,h2,h3.keep k (by omega),h4,fun u hu=>hP u (h5 u hu)⟩
end
section
open Go Go.RowKit
set_option maxHeartbeats 4000000 in
set_option maxRecDepth 100000 in
theorem cloneI_any (A:Option Addr)(l:List IdV)(c:Nat)(w:World)(hL:Sl rId (fun _=>False) w A l)(hl:l.length≤1000) :
  Calls Tryz.prog 69 #[.slice A l.length c] w fun e w'=>∃ A' c',e=.returned (.slice A' l.length c')∧Mem w w' [.own rId w.heap.size 46 (.slice A' l.length c') l]:=by
 have he:∀ (a:Option Addr) (n c:Nat) (w:World),(binOp .eql 26 (.slice a n c) (.slice none 0 0)).run Tryz.prog w=.ok (.bool a.isNone) w:=fun a n c w=>Lib.run_eql_slice_nil w _ _ a n c 0 0 tyIdP.under;cases A with
 | none =>
  obtain rfl:=Sl.nilOf hL;have S:Mem w w [.own rId w.heap.size 46 (.slice none 0 0) []]:=(Mem.start w).nil rId w.heap.size 46;go_enter Tryz.func69,Tryz.ntmps69
  go_wp2_with fail
  go_ret;exact ⟨none,0,rfl,S⟩
 | some ad =>
  have S:=(Mem.start w).newAt #[] 46 w.heap.size rfl;have S1:Mem w (w.alloc (.cells #[] 46)) [.own rId w.heap.size 46 (.slice (some ⟨w.heap.size,0,none⟩) 0 0) []]:=S.room (r:=rId) 0 rfl rfl (by decide) rfl;have Hc:=Lib.hid (Sl.flatCells flatId (fun _=>rfl) (hL.keepB S1.b));have hsz:=S1.b.size;have HS:=Lib.hid S1;have Hl:=Lib.hid hl;clear S S1 hL hl;go_enter Tryz.func69,Tryz.ntmps69
  go_wp2_with (at_builtin;refine HS.out.appN flatId 0 rfl tyIdP rfl _ _ rfl l l.length c rfl rfl ad rfl Hc.out (fun y _=>oneIdP y) (fun _=>rfl) hsz (by simp only [List.length_nil];have:=Hl.out;omega) (by decide) ?_;intro v5 w5 S5)
  obtain ⟨A5,c5,e5⟩:=(S5.ow 0 rfl).len;subst e5;go_ret;exact ⟨A5,c5,rfl,S5⟩
end
section
open Go Go.RowKit
structure SQ where
 s:Srv
 A:Option Addr
 c:Nat
def SQ.cells (q:SQ):List Value:=[.string q.s.name,.int .i64 q.s.how,.slice q.A q.s.srcs.length q.c]
def rSQ:Rep SQ:=.flat 3 SQ.cells (fun _=>rfl)
theorem flatSQ:rSQ.Flat SQ.cells:=fun _ _ _ _=>Iff.rfl
theorem tySrv:STy 27 124 rSQ.size 48 (.agg #[.string ⟨#[]⟩,.int .i64 0,.slice none 0 0]):=⟨Tryz.underlying27,by kernel_rfl,rfl,by decide⟩
theorem oneSQ (q:SQ):∀ u∈q.cells,u.oneCell'=true:=fun u hu=>by
 simp only [SQ.cells,List.mem_cons,List.not_mem_nil,or_false] at hu;rcases hu with rfl | rfl | rfl <;> rfl
def SdOk (M:Nat→Prop)(w:World)(qs:List SQ):Prop:=∀ q∈qs,q.s.srcs.length≤q.c∧Sl rStr M w q.A q.s.srcs
def Chunk.sdat (qs:List SQ):Chunk :=
 ⟨none,fun M w=>SdOk M w qs,fun k hd _ h q hq=>⟨(h q hq).1,(h q hq).2.keep (k.mono hd)⟩,fun hm h q hq=>⟨(h q hq).1,(h q hq).2.mono (fun k hk e=>(hm k hk e).resolve_right (by simp))⟩,fun _ _ e=>by cases e⟩
theorem St.sd {b m:Nat}{w0 w:World}{cs:List Chunk}(S:St b m w0 w cs)(i:Nat){qs:List SQ}(hi:cs[i]? =some (.sdat qs)):SdOk (Mut w0.heap.size cs) w qs:=S.ok _ (List.mem_of_getElem? hi)
theorem St.addSd {b m:Nat}{w0 w:World}{cs:List Chunk}(S:St b m w0 w cs)(i:Nat){qs:List SQ}(hi:cs[i]? =some (.sdat qs))(x:SQ)(hc:x.s.srcs.length≤x.c)(hx:Sl rStr (Mut w0.heap.size cs) w x.A x.s.srcs):St b m w0 w (cs.set i (.sdat (qs++[x]))):=by
 refine S.turn i hi (.sdat (qs++[x])) rfl (fun q hq=>?_);rcases List.mem_append.1 hq with hq | hq
 ·exact S.sd i hi q hq
 ·rw [List.mem_singleton.1 hq];exact ⟨hc,hx⟩
theorem slSrv {N:Nat→Prop}{w:World}{A:Option Addr}{qs:List SQ}(h:Sl rSQ N w A qs)(hf:SdOk N w qs):Sl rSrv N w A (qs.map SQ.s):=fun i x hx=>by
 rw [List.getElem?_map] at hx;cases hq:qs[i]? with
 | none=>rw [hq] at hx;cases hx
 | some y =>
  rw [hq] at hx;obtain rfl:y.s=x:=by simpa using hx
  obtain ⟨blk,off,l,e1,h1,h2,h3,h4⟩:=h i y hq;obtain rfl:l=SQ.cells y:=h3;have hy:=hf y (List.mem_of_getElem? hq);exact ⟨blk,off,_,e1,h1,h2,rSrv_mk (c:=y.c) hy.1 hy.2,h4⟩
theorem St.srvs {b m:Nat}{w0 w:World}{cs:List Chunk}(S:St b m w0 w cs)(i j:Nat){A:Option Addr}{qs:List SQ}(hi:cs[i]? =some (.sl rSQ A qs))(hj:cs[j]? =some (.sdat qs)):St b m w0 w (cs.set i (.sl rSrv A (qs.map SQ.s))) :=
 S.turn i hi (.sl rSrv A (qs.map SQ.s)) rfl (slSrv (S.slc i hi) (S.sd j hj))
structure SqSm (q:SQ):Prop where
 nm:q.s.name.size≤100
 sl:q.s.srcs.length≤3
 st:∀ x∈q.s.srcs,x.size≤100
structure RulSm (r:Rul):Prop where
 kl:r.kinds.length≤4
 wl:r.weak.length≤300
 wt:∀ x∈r.weak,x.t.size≤10000
 sl:r.surv.length≤10
 ss:∀ s∈r.surv,s.name.size≤100∧s.srcs.length≤3∧∀ x∈s.srcs,x.size≤100
theorem RulSm.ok {r:Rul}(h:RulSm r):RulOk r:=⟨Nat.le_trans h.kl (by decide),Nat.le_trans h.wl (by decide),fun x hx=>Nat.le_trans (h.wt x hx) (by decide),Nat.le_trans h.sl (by decide),fun s hs=>Nat.le_trans (h.ss s hs).1 (by decide),fun s hs=>Nat.le_trans (h.ss s hs).2.1 (by decide),fun s hs x hx=>Nat.le_trans ((h.ss s hs).2.2 x hx) (by decide)⟩
theorem rul_small {zs:List Int}{most:Int}{ws:List IdV}(qs:List SQ)(h1:∀ q∈qs,SqSm q)(h2:qs.length≤10)(h3:zs.length≤4)(h4:ws.length≤300)(h5:∀ x∈ws,x.t.size≤10000):RulSm ⟨zs,most,ws,qs.map SQ.s⟩ :=
 ⟨h3,h4,h5,by show (qs.map SQ.s).length≤10;rw [List.length_map];exact h2,fun s hs=>by
  obtain ⟨q,hq,rfl⟩:=List.mem_map.1 hs;exact ⟨(h1 q hq).nm,(h1 q hq).sl,(h1 q hq).st⟩⟩
def DrawsRul (b m:Nat)(w:World)(e:Ending)(w':World):Prop:=∃ (r:Rul) (K:Option Addr) (ck:Nat) (W:Option Addr) (cw:Nat) (S:Option Addr) (cs:Nat),
 e=.returned (.agg (ruCs r K ck W cw S cs))∧RulSm r∧St b m w w' [.sl rInt K r.kinds,.sl rId W r.weak,.sl rSrv S r.surv]
abbrev jzCs:Array Value:=#[.slice none 0 0,.int .i64 0,.slice none 0 0,.slice none 0 0]
theorem loadJr {w:World}{X:Nat}{a b c d:Value}(h:LV w X #[a,b,c,d] 29):(loadVar 29 ⟨X,0,none⟩).run Tryz.prog w=.ok (.agg #[a,b,c,d]) w:=by
 have c0:=h.all;go_simp
def IsOwnIds (b B:Nat)(v:Value)(w:World):Prop:=∃ xs:List IdV,Own rId (Off b) B 46 w v xs∧xs.length≤2∧∀ x∈xs,x.t.size≤10000
def IsJr (b B:Nat)(v:Value)(w:World):Prop:=∃ (vk vw:Value) (most:Int),v=.agg #[vk,.int .i64 most,vw,.slice none 0 0]∧PI B vk w∧IsOwnIds b B vw w
def jrFact (b B:Nat)(i:Nat)(v:Value)(w:World):Prop :=
 match i with
 | 0=>IsLit B [1,2] v w
 | 1=>IsLit B [1,2,3,4] v w
 | 2=>IsLit B [1] v w
 | 3=>IsLit B [2,3] v w
 | 4=>IsLit B [4] v w
 | 5=>IsNest 22 B 5 (PI B) v w
 | 7=>IsI 0 4 v
 | 8=>IsAt 22 B (PI B) v w
 | 9=>PI B v w
 | 11=>IsLit B [2,3,4,2000] v w
 | 12=>IsI 2 2000 v
 | 15=>IsLit B [0,0,0,1,2] v w
 | 16=>IsI 0 2 v
 | 17=>IsOwnIds b B v w
 | 18=>IsJr b B v w
 | 19=>IsNew B jzCs 29 v w
 | _=>True
theorem IsOwnIds.keep {b B:Nat}{v:Value}{w w':World}(h:IsOwnIds b B v w)(k:SK b w w')(hb:b < B):IsOwnIds b B v w':=by
 obtain ⟨xs,h1,h2,h3⟩:=h;exact ⟨xs,h1.stepG k hb,h2,h3⟩
theorem jrFact_keep {b B:Nat}(hb:b < B)(i:Nat)(v:Value)(w w':World)(k:SK b w w')(h:jrFact b B i v w):jrFact b B i v w':=by
 unfold jrFact at *;split at h
 ·exact h.keep k hb
 ·exact h.keep k hb
 ·exact h.keep k hb
 ·exact h.keep k hb
 ·exact h.keep k hb
 ·exact h.keep (fun u hu=>hu.keep k hb) k hb
 ·exact h
 ·exact h.keep (fun u hu=>hu.keep k hb) k hb
 ·exact h.keep k hb
 ·exact h.keep k hb
 ·exact h
 ·exact h.keep k hb
 ·exact h
 ·exact h.keep k hb
 ·obtain ⟨vk,vw,most,e,h1,h2⟩:=h;exact ⟨vk,vw,most,e,h1.keep k hb,h2.keep k hb⟩
 ·exact h.keep k hb
 ·exact h
theorem mut_left {B:Nat}{cs ds:List Chunk}{k:Nat}(h:Mut B cs k):Mut B (cs++ds) k:=h.imp id (fun ⟨c,hc,e⟩=>⟨c,List.mem_append_left _ hc,e⟩)
theorem St.left {b m:Nat}{w0 w:World}{cs ds:List Chunk}(S:St b m w0 w (cs++ds)):St b m w0 w cs :=
 ⟨S.g,S.b0,fun c hc=>c.mono (fun _ _ e=>.inl (mut_left e)) (S.ok c (List.mem_append_left _ hc)),fun c hc=>S.new c (List.mem_append_left _ hc),(List.pairwise_append.1 S.sep).1⟩
theorem St.swapFor {b m:Nat}{w0 w:World}{cs ds:List Chunk}(S:St b m w0 w (cs++ds))(c:Chunk)(hc:c.blk=none)(hok:c.ok (Mut w0.heap.size cs) w):St b m w0 w (cs++[c]):=by
 have hm:∀ k,Mut w0.heap.size (cs++[c]) k→Mut w0.heap.size cs k:=fun k e=>by
  rcases e with e | ⟨q,hq,e⟩
  ·exact .inl e
  ·rcases List.mem_append.1 hq with hq | hq
   ·exact .inr ⟨q,hq,e⟩
   ·rw [List.mem_singleton.1 hq,hc] at e;cases e
 refine ⟨S.g,S.b0,fun d hd=>?_,fun d hd k e=>?_,?_⟩
 ·rcases List.mem_append.1 hd with hd | hd
  ·exact d.mono (fun k _ e=>.inl (mut_left (hm k e))) (S.ok d (List.mem_append_left _ hd))
  ·rw [List.mem_singleton.1 hd];exact c.mono (fun k _ e=>.inl (hm k e)) hok
 ·rcases List.mem_append.1 hd with hd | hd
  ·exact S.new d (List.mem_append_left _ hd) k e
  ·rw [List.mem_singleton.1 hd,hc] at e;cases e
 ·refine List.pairwise_append.2 ⟨(List.pairwise_append.1 S.sep).1,List.pairwise_singleton _ _,fun x _ y hy k _ e2=>?_⟩;rw [List.mem_singleton.1 hy,hc] at e2;cases e2
theorem St.joinM {b m:Nat}{w0 w w':World}{cs ds:List Chunk}(S:St b m w0 w cs)(M:Mem w w' ds):St b m w0 w' (cs++ds) :=
 S.callN ((G.start S.g.s).below M.b) ds (fun d hd=>M.ok d hd) (fun d hd=>M.new d hd) M.sep
theorem St.base {α:Type}{r:Rep α}{f:α→List Value}(hf:r.Flat f){b m:Nat}{w0 w:World}{cs:List Chunk}(S:St b m w0 w cs)(i:Nat){B B' E:Nat}{v:Value}{xs:List α}(hi:cs[i]? =some (.own r B E v xs))(hB:B'≤B):St b m w0 w (cs.set i (.own r B' E v xs)) :=
 S.upd i hi (.own r B' E v xs) ⟨Nat.le_refl _,fun _ _ _=>rfl⟩ S.g (fun _ e=>.inl e) (((S.ow i hi).flatM hf).base hB)
def IsTwoS (B:Nat)(v:Value)(w:World):Prop:=∃ s1 s2:ByteArray,s1.size≤10∧s2.size≤10∧IsLitS B [s1,s2] v w
def IsZoo (B:Nat)(v:Value)(w:World):Prop:=∃ (how:Int) (u:Value),v=.agg #[.string ⟨#[122,111,111]⟩,.int .i64 how,u]∧IsTwoS B u w
def j4Fact (B:Nat)(i:Nat)(v:Value)(w:World):Prop :=
 match i with
 | 3=>IsI 1 7 v
 | 5=>IsLitS B [⟨#[97]⟩,⟨#[66]⟩] v w
 | 6=>IsS 10 v
 | 8=>IsLitS B [⟨#[97]⟩,⟨#[98]⟩] v w
 | 9=>IsS 10 v
 | 10=>IsTwoS B v w
 | 11=>IsZoo B v w
 | _=>True
theorem IsTwoS.keep {b B:Nat}{v:Value}{w w':World}(h:IsTwoS B v w)(k:SK b w w')(hb:b < B):IsTwoS B v w':=by
 obtain ⟨s1,s2,h1,h2,h3⟩:=h;exact ⟨s1,s2,h1,h2,h3.keep k hb⟩
theorem j4Fact_keep {b B:Nat}(hb:b < B)(i:Nat)(v:Value)(w w':World)(k:SK b w w')(h:j4Fact B i v w):j4Fact B i v w':=by
 unfold j4Fact at *;split at h
 ·exact h
 ·exact h.keep k hb
 ·exact h
 ·exact h.keep k hb
 ·exact h
 ·exact h.keep k hb
 ·obtain ⟨how,u,e,h1⟩:=h;exact ⟨how,u,e,h1.keep k hb⟩
 ·exact h
abbrev JR (B R Z:Nat)(vk:Value)(most:Int)(vw vs:Value)(Ak:Option Addr)(zs:List Int)(ws:List IdV)(qs:List SQ):List Chunk :=
 [.loc R jzCs 29,.loc Z #[vk,.int .i64 most,vw,vs] 29,.sl rInt Ak zs,.own rId B 46 vw ws,.own rSQ B 124 vs qs,.sdat qs]
set_option maxHeartbeats 8000000 in
set_option maxRecDepth 100000 in
theorem joinRules_any (b m:Nat)(w:World)(hs:Strm b m w)(hm:m≤10000000)(hN:Names w)(hNb:0≠b)(hP:Pool w)(hPb:1≠b) :
  Calls Tryz.prog 15 #[.pointer (some ⟨b,0,none⟩)] w (DrawsRul b (m + 1000) w):=by
 have S:=(St.start hs).new' jzCs 29;replace S:St b m w (w.alloc (.cells jzCs 29)) [.loc w.heap.size jzCs 29]:=S;have HN:=Lib.hid hN;have HP:=Lib.hid hP;clear hs hN hP;obtain ⟨R,hR⟩:∃ R,R=w.heap.size:=⟨_,rfl⟩;rw [← hR] at S;go_enter Tryz.func15,Tryz.ntmps15
 go_upto_region 1 with fail
 generalize w.alloc (.cells jzCs 29)=w1 at *;rw [← hR];clear hR;refine wp_region_mixG 20 (fun _=>True) [.q 6,.q 10,.q 13,.q 14,.f [0,1,2,3,4,5,7,8,9,11,12,15,16,17,18,19],.e 20] (by kernel_rfl) (by kernel_rfl) (fun _ _=>trivial) (fun KK hKK wd hd=>?_);replace S:=S.below (hd.below _);have hbd:b < wd.heap.size:=Nat.lt_of_lt_of_le S.b0 S.g.size;clear hd;refine mpG ?_;refine free_plan [(0,7,[]),(1,8,[]),(2,9,[]),(3,10,[]),(4,11,[]),(5,12,[(0,7),(1,8),(2,9),(3,10),(4,11)]),(7,14,[]),(8,15,[(5,12),(7,14)]),(9,16,[(8,15)]),(11,18,[]),(12,19,[(7,14),(11,18)]),(15,22,[]),(16,23,[(12,19),(15,22)]),(17,24,[(16,23)]),(18,25,[(9,16),(12,19),(17,24)]),(19,3,[])] rfl (by kernel_rfl) (fun c w'=>G b (m + 30 * c) wd w') (SK b) (jrFact b wd.heap.size) (G.start S.g.s) (fun _ _ _=>trivial) ?_ (by rfl) ?_ ?_
 ·refine all_cons ?_ (all_cons ?_ (all_cons ?_ (all_cons ?_ (all_cons ?_ (all_cons ?_ (all_cons ?_ (all_cons ?_ (all_cons ?_ (all_cons ?_ (all_cons ?_ (all_cons ?_ (all_cons ?_ (all_cons ?_ (all_cons ?_ (all_cons ?_ all_nil)))))))))))))));all_goals exact fun v w w' k h=>jrFact_keep hbd _ v w w' k h
 ·refine all_cons ?_ (all_cons ?_ (all_cons ?_ (all_cons ?_ (all_cons ?_ (all_cons ?_ (all_cons ?_ (all_cons ?_ (all_cons ?_ (all_cons ?_ (all_cons ?_ (all_cons ?_ (all_cons ?_ (all_cons ?_ (all_cons ?_ (all_cons ?_ all_nil)))))))))))))));all_goals (intro o ho c ν w2 hc hinv hp;cases ho;simp only [fillD,List.foldl_cons,List.foldl_nil];simp only [List.length_cons,List.length_nil] at hc)
  --@dev
  ·go_wp2_with fail
   first | exact ⟨_,rfl,(SK.refl _ _).alloc _,(hinv.alloc _).mono (by omega),w2.heap.size,rfl,LV.new _ _ _ _ rfl,hinv.size⟩ | exact ⟨(SK.refl _ _).alloc _,(hinv.alloc _).mono (by omega),w2.heap.size,rfl,LV.new _ _ _ _ rfl,hinv.size⟩
  ·go_wp2_with fail
   first | exact ⟨_,rfl,(SK.refl _ _).alloc _,(hinv.alloc _).mono (by omega),w2.heap.size,rfl,LV.new _ _ _ _ rfl,hinv.size⟩ | exact ⟨(SK.refl _ _).alloc _,(hinv.alloc _).mono (by omega),w2.heap.size,rfl,LV.new _ _ _ _ rfl,hinv.size⟩
  ·go_wp2_with fail
   first | exact ⟨_,rfl,(SK.refl _ _).alloc _,(hinv.alloc _).mono (by omega),w2.heap.size,rfl,LV.new _ _ _ _ rfl,hinv.size⟩ | exact ⟨(SK.refl _ _).alloc _,(hinv.alloc _).mono (by omega),w2.heap.size,rfl,LV.new _ _ _ _ rfl,hinv.size⟩
  ·go_wp2_with fail
   first | exact ⟨_,rfl,(SK.refl _ _).alloc _,(hinv.alloc _).mono (by omega),w2.heap.size,rfl,LV.new _ _ _ _ rfl,hinv.size⟩ | exact ⟨(SK.refl _ _).alloc _,(hinv.alloc _).mono (by omega),w2.heap.size,rfl,LV.new _ _ _ _ rfl,hinv.size⟩
  ·go_wp2_with fail
   first | exact ⟨_,rfl,(SK.refl _ _).alloc _,(hinv.alloc _).mono (by omega),w2.heap.size,rfl,LV.new _ _ _ _ rfl,hinv.size⟩ | exact ⟨(SK.refl _ _).alloc _,(hinv.alloc _).mono (by omega),w2.heap.size,rfl,LV.new _ _ _ _ rfl,hinv.size⟩
  ·obtain ⟨b0,e0,l0,g0⟩:=(hp (0,7) (by simp):IsLit wd.heap.size [1,2] (ν 0) w2);obtain ⟨b1,e1,l1,g1⟩:=(hp (1,8) (by simp):IsLit wd.heap.size [1,2,3,4] (ν 1) w2);obtain ⟨b2,e2,l2,g2⟩:=(hp (2,9) (by simp):IsLit wd.heap.size [1] (ν 2) w2);obtain ⟨b3,e3,l3,g3⟩:=(hp (3,10) (by simp):IsLit wd.heap.size [2,3] (ν 3) w2);obtain ⟨b4,e4,l4,g4⟩:=(hp (4,11) (by simp):IsLit wd.heap.size [4] (ν 4) w2);simp only [e0,e1,e2,e3,e4,List.length_cons,List.length_nil];go_wp2_with fail
   first | exact ⟨_,rfl,(SK.refl _ _).alloc _,(hinv.alloc _).mono (by omega),w2.heap.size,_,rfl,rfl,LV.new _ _ _ _ rfl,hinv.size,all_cons ⟨[1,2],by decide,.inr (IsLit.keep ⟨b0,rfl,l0,g0⟩ ((SK.refl b _).alloc _) hbd)⟩ (all_cons ⟨[1,2,3,4],by decide,.inr (IsLit.keep ⟨b1,rfl,l1,g1⟩ ((SK.refl b _).alloc _) hbd)⟩ (all_cons ⟨[1],by decide,.inr (IsLit.keep ⟨b2,rfl,l2,g2⟩ ((SK.refl b _).alloc _) hbd)⟩ (all_cons ⟨[2,3],by decide,.inr (IsLit.keep ⟨b3,rfl,l3,g3⟩ ((SK.refl b _).alloc _) hbd)⟩ (all_cons ⟨[4],by decide,.inr (IsLit.keep ⟨b4,rfl,l4,g4⟩ ((SK.refl b _).alloc _) hbd)⟩ all_nil))))⟩ | exact ⟨(SK.refl _ _).alloc _,(hinv.alloc _).mono (by omega),w2.heap.size,_,rfl,rfl,LV.new _ _ _ _ rfl,hinv.size,all_cons ⟨[1,2],by decide,.inr (IsLit.keep ⟨b0,rfl,l0,g0⟩ ((SK.refl b _).alloc _) hbd)⟩ (all_cons ⟨[1,2,3,4],by decide,.inr (IsLit.keep ⟨b1,rfl,l1,g1⟩ ((SK.refl b _).alloc _) hbd)⟩ (all_cons ⟨[1],by decide,.inr (IsLit.keep ⟨b2,rfl,l2,g2⟩ ((SK.refl b _).alloc _) hbd)⟩ (all_cons ⟨[2,3],by decide,.inr (IsLit.keep ⟨b3,rfl,l3,g3⟩ ((SK.refl b _).alloc _) hbd)⟩ (all_cons ⟨[4],by decide,.inr (IsLit.keep ⟨b4,rfl,l4,g4⟩ ((SK.refl b _).alloc _) hbd)⟩ all_nil))))⟩
  ·go_wp2_with fail
   refine (next_any b _ _ _ hinv.s (by omega) (by omega) (by omega)).mono ?_;rintro e w3 ⟨r,r_lo,r_hi,rfl,hk_w3,hs_w3⟩;go_wp2_with fail
   refine ⟨_,rfl,hk_w3,(hinv.step hk_w3 hs_w3).mono (by omega),?_⟩;exact ⟨r,rfl,by omega,by omega⟩
  ·obtain ⟨blk,vs,hl,e1,lv,hB,hP⟩:=(hp (5,12) (by simp):IsNest 22 wd.heap.size 5 (PI wd.heap.size) (ν 5) w2);obtain ⟨z,e2,z1,z2⟩:=(hp (7,14) (by simp):IsI 0 4 (ν 7));obtain ⟨q,rfl⟩:=Int.eq_ofNat_of_zero_le z1;simp only [e1,e2];go_wp2_with fail
   first | exact ⟨_,rfl,SK.refl _ _,hinv.mono (by omega),blk,q,vs,by omega,by simp,lv,hB,hP⟩ | exact ⟨SK.refl _ _,hinv.mono (by omega),blk,q,vs,by omega,by simp,lv,hB,hP⟩
  ·obtain ⟨blk,q,vs,hq,e1,lv,hB,hP⟩:=(hp (8,15) (by simp):IsAt 22 wd.heap.size (PI wd.heap.size) (ν 8) w2);have hPq:=hP _ (List.getElem_mem hq);have hc:w2.cell? ⟨blk,q,none⟩=some vs[q]:=lv.cell q _ (by simp [List.getElem?_eq_getElem hq]);obtain ⟨A,n,c,e2⟩:=hPq.form;rw [e2] at hPq hc;simp only [e1];go_wp2_with fail
   first | exact ⟨_,rfl,SK.refl _ _,hinv.mono (by omega),hPq⟩ | exact ⟨SK.refl _ _,hinv.mono (by omega),hPq⟩
  ·go_wp2_with fail
   first | exact ⟨_,rfl,(SK.refl _ _).alloc _,(hinv.alloc _).mono (by omega),w2.heap.size,rfl,LV.new _ _ _ _ rfl,hinv.size⟩ | exact ⟨(SK.refl _ _).alloc _,(hinv.alloc _).mono (by omega),w2.heap.size,rfl,LV.new _ _ _ _ rfl,hinv.size⟩
  ·have h7:IsLit wd.heap.size [2,3,4,2000] (ν 11) w2:=hp (11,18) (by simp);go_wp2_with fail
   refine (h7.pick hinv.s hbd (by simp) (by simp) (by omega)).mono ?_;rintro e w3 ⟨r,hr,rfl,hk_w3,hs_w3⟩;go_wp2_with fail
   refine ⟨_,rfl,hk_w3,(hinv.step hk_w3 hs_w3).mono (by omega),?_⟩;exact ⟨r,rfl,by simp at hr;omega,by simp at hr;omega⟩
  ·go_wp2_with fail
   first | exact ⟨_,rfl,(SK.refl _ _).alloc _,(hinv.alloc _).mono (by omega),w2.heap.size,rfl,LV.new _ _ _ _ rfl,hinv.size⟩ | exact ⟨(SK.refl _ _).alloc _,(hinv.alloc _).mono (by omega),w2.heap.size,rfl,LV.new _ _ _ _ rfl,hinv.size⟩
  ·have h7:IsLit wd.heap.size [0,0,0,1,2] (ν 15) w2:=hp (15,22) (by simp);go_wp2_with fail
   refine (h7.pick hinv.s hbd (by simp) (by simp) (by omega)).mono ?_;rintro e w3 ⟨r,hr,rfl,hk_w3,hs_w3⟩;go_wp2_with fail
   refine ⟨_,rfl,hk_w3,(hinv.step hk_w3 hs_w3).mono (by omega),?_⟩;exact ⟨r,rfl,by simp at hr;omega,by simp at hr;omega⟩
  ·obtain ⟨z,e2,z1,z2⟩:=(hp (16,23) (by simp):IsI 0 2 (ν 16));obtain ⟨q,rfl⟩:=Int.eq_ofNat_of_zero_le z1;simp only [e2];go_wp2_with fail
   refine (ids_any b _ q w2 hinv.s (by omega) (by omega) ((HP.out.keep S.g.k hPb).keep hinv.k hPb) hPb).mono ?_;rintro e w3 ⟨v,xs,rfl,hxl,hxs,T⟩;go_wp2_with fail
   exact ⟨_,rfl,T.g.k,(hinv.step T.g.k T.g.s).mono (by omega),xs,((T.ow 0 rfl).flatM flatId).base hinv.size,by omega,hxs⟩
  ·have h7:PI wd.heap.size (ν 9) w2:=hp (9,16) (by simp);obtain ⟨most,e1,_⟩:=(hp (12,19) (by simp):IsI 2 2000 (ν 12));have h8:IsOwnIds b wd.heap.size (ν 17) w2:=hp (17,24) (by simp);obtain ⟨A,n,c,e3⟩:=h7.form;obtain ⟨xs,h9,h10,h11⟩:=h8;obtain ⟨A2,c2,e4⟩:=h9.len;rw [e3] at h7;rw [e4] at h9;simp only [e1,e3,e4];go_wp2_with fail
   first | exact ⟨_,rfl,SK.refl _ _,hinv.mono (by omega),_,_,most,rfl,h7,xs,h9,h10,h11⟩ | exact ⟨SK.refl _ _,hinv.mono (by omega),_,_,most,rfl,h7,xs,h9,h10,h11⟩
  ·go_wp2_with fail
   first | exact ⟨_,rfl,(SK.refl _ _).alloc _,(hinv.alloc _).mono (by omega),w2.heap.size,rfl,LV.new _ _ _ _ rfl,hinv.size⟩ | exact ⟨(SK.refl _ _).alloc _,(hinv.alloc _).mono (by omega),w2.heap.size,rfl,LV.new _ _ _ _ rfl,hinv.size⟩
  --@enddev
 ·intro ν w2 hinv hf;obtain ⟨vk,vw,most,e18,⟨zs,hzl,hzs⟩,ws,hws,hwl,hwt⟩:=(hf (18,25,[(9,16),(12,19),(17,24)]) (by simp):IsJr b wd.heap.size (ν 18) w2);obtain ⟨Z,e19,lvZ,hZ⟩:=(hf (19,3,[]) (by simp):IsNew wd.heap.size jzCs 29 (ν 19) w2);have hwd:=S.g.size;have o1:∀ M,Own rInt M w.heap.size 3 w2 vk zs:=fun M=>hzs.own hwd (by omega);have o2:∀ M,Own rId M w.heap.size 46 w2 vw ws:=fun M=>(hws.flatM flatId).base hwd;replace S:=S.callN hinv [.loc Z jzCs 29,.own rInt w.heap.size 3 vk zs,.own rId w.heap.size 46 vw ws]
   (all_cons lvZ (all_cons (o1 _) (all_cons (o2 _) all_nil))) (all_cons (fun k e=>by cases e;exact hZ) (all_cons hzs.ge (all_cons (fun k e=>(hws.lt k e).1) all_nil)))
   (List.pairwise_cons.2 ⟨all_cons (fun k e1 e2=>by cases e1;exact (o1 (fun _=>True)).blkTag lvZ (by decide) _ e2 rfl) (all_cons (fun k e1 e2=>by cases e1;exact (o2 (fun _=>True)).blkTag lvZ (by decide) _ e2 rfl) all_nil),
    List.pairwise_cons.2 ⟨all_cons (fun k e1=>(o1 (fun _=>True)).blkTag2 (o2 (fun _=>True)) (by decide) k e1) all_nil,List.pairwise_cons.2 ⟨all_nil,List.Pairwise.nil⟩⟩⟩)
  clear o1 o2;replace S:St b (m + 480) w w2 [.loc R jzCs 29,.loc Z jzCs 29,.own rInt w.heap.size 3 vk zs,.own rId w.heap.size 46 vw ws]:=S.mono (by show _≤_;simp);obtain ⟨Ak,ck,rfl,S3⟩:=S.frz 2 rfl;obtain ⟨Aw,cw,rfl⟩:=(S3.ow 3 rfl).len;have Hwt:=Lib.hid hwt;simp only [fillD,List.map_cons,List.map_nil,List.foldl_cons,List.foldl_nil,e18,e19];clear hf hinv lvZ e18 e19 hzs hws hwt S;have S:=S3;clear S3;have Hzl:Hid (zs.length≤4):=hzl;have Hwl:Hid (ws.length≤300):=Nat.le_trans hwl (by decide);clear hzl;generalize ν 0=q0;generalize ν 1=q1;generalize ν 2=q2;generalize ν 3=q3;generalize ν 4=q4;generalize ν 5=q5;generalize ν 7=q7;generalize ν 8=q8;generalize ν 9=q9;generalize ν 11=q11;generalize ν 12=q12;generalize ν 15=q15;generalize ν 16=q16;generalize ν 17=q17;have x0:=(S.lv 1 rfl).all;refine mixG_l rfl rfl (fun K hK=>?_);go_wp2_with fail
  refine ⟨fun h=>absurd rfl h,?_⟩;refine mixG_nil ?_;simp only [Exit.then];refine hKK _ _ ?_;have S2:=((((S.set 1 0 (.slice Ak zs.length ck) rfl).set 1 1 (.int .i64 most) rfl).set 1 2 (.slice Aw ws.length cw) rfl).set 1 3 (.slice none 0 0) rfl).nil rSQ w.heap.size 124;have S3:=S2.call (G.start S2.g.s) (.sdat []) (fun q hq=>by cases hq) (fun k e=>by cases e);replace S2:St b (m + 480) w ((((w2.setCell ⟨Z,0,none⟩ (.slice Ak zs.length ck)).setCell ⟨Z,1,none⟩ (.int .i64 most)).setCell ⟨Z,2,none⟩ (.slice Aw ws.length cw)).setCell ⟨Z,3,none⟩ (.slice none 0 0)) (JR w.heap.size R Z (.slice Ak zs.length ck) most (.slice Aw ws.length cw) (.slice none 0 0) Ak zs ws []):=S3;clear x0 S S3;generalize (((w2.setCell ⟨Z,0,none⟩ (.slice Ak zs.length ck)).setCell ⟨Z,1,none⟩ (.int .i64 most)).setCell ⟨Z,2,none⟩ (.slice Aw ws.length cw)).setCell ⟨Z,3,none⟩ (.slice none 0 0)=w3 at *;have S:=S2;clear S2;obtain ⟨n0,n1,n2,n3,n4,n5⟩:=HN.out.keep S.g.k hNb;go_wp2_with fail
  clear n0 n1 n2 n3 n4 n5;go_loopw [27] (fun i wr=>∃ (k:Nat) (As:Option Addr) (ca:Nat) (qs:List SQ),k≤6∧i=.int .i64 k∧Hid (qs.length≤k)∧Hid (∀ q∈qs,SqSm q)∧St b (m + 500 + 10 * k) w wr (JR w.heap.size R Z (.slice Ak zs.length ck) most (.slice Aw ws.length cw) (.slice As qs.length ca) Ak zs ws qs)) (fun i _=>6 - (intOf i).toNat)
  case atStart=>exact ⟨0,none,0,[],Nat.zero_le _,rfl,Nat.le_refl 0,(by show ∀ _∈_,_;simp),S.mono (by omega)⟩
  case round =>
   clear S;obtain ⟨k,As,ca,qs,hk,rfl,Hql,Hqs,S⟩:=hrel;by_cases hlt6:k < 6
   ·obtain ⟨nm,hnm,hix⟩:=names_ix k hlt6;--@dev
    go_wp2_with fail
    refine (flip_any b _ _ _ S.g.s (by omega) (by omega) (by omega)).mono ?_;rintro e w4 ⟨r4,rfl,hk_w4,hs_w4⟩;replace S:=S.step hk_w4 hs_w4;clear hk_w4 hs_w4;clear hix;cases r4
    ·go_wp2_with fail
     go_roundw
     case rel=>exact ⟨k + 1,As,ca,qs,by omega,by go_num,by show _≤_;have:=Hql.out;omega,Hqs,S.mono (by omega)⟩
     case measure=>simp [intOf];omega
    ·go_wp2_with fail
     refine (range_any b _ _ _ _ S.g.s (by omega) (by omega) (by omega) (by omega)).mono ?_;rintro e w5 ⟨how,how_lo,how_hi,rfl,hk_w5,hs_w5⟩;replace S:=S.step hk_w5 hs_w5;clear hk_w5 hs_w5;obtain ⟨X,hX⟩:∃ X,X=w5.heap.size:=⟨_,rfl⟩;have S5:=S.newAt #[.string nm,.int .i64 how,.slice none 0 0] 124 X hX;clear S;go_upto_region 7 with fail
     rw [← hX];clear hX;generalize w5.alloc (.cells #[.string nm,.int .i64 how,.slice none 0 0] 124)=w6 at *;have S:=S5;clear S5;replace S:St b (m + 500 + 10 * k + 1 + 1) w w6 (JR w.heap.size R Z (.slice Ak zs.length ck) most (.slice Aw ws.length cw) (.slice As qs.length ca) Ak zs ws qs++[.loc X #[.string nm,.int .i64 how,.slice none 0 0] 124]):=S;by_cases h5:how=5
     ·have h5':(how==5)=true:=by simpa using h5
      have x0:=(S.lv 6 rfl).all;obtain ⟨L,hL⟩:∃ L,L=w6.heap.size:=⟨_,rfl⟩;go_upto_region 8 with fail
      clear x0 h5' h5;go_wp2_with fail
      obtain ⟨A1,c1,e1,S1⟩:=((S.newAt #[.string ⟨#[115,104,111,112]⟩] 9 L hL).asOwn flatStr 7 rfl [⟨#[115,104,111,112]⟩] rfl rfl (by simp) rfl 1 rfl).frz 7 rfl;cases e1;replace S1:St b (m + 500 + 10 * k + 1 + 1) w (w6.alloc (.cells #[.string ⟨#[115,104,111,112]⟩] 9)) (JR w.heap.size R Z (.slice Ak zs.length ck) most (.slice Aw ws.length cw) (.slice As qs.length ca) Ak zs ws qs++[Chunk.loc X #[.string nm,.int .i64 how,.slice none 0 0] 124,.sl rStr (some ⟨L,0,none⟩) [⟨#[115,104,111,112]⟩]]):=S1;obtain ⟨A2,c2,e2,S2⟩:=((S1.newAt #[.string ⟨#[100,101,115,107]⟩,.string ⟨#[115,104,111,112]⟩] 9 (L + 1) (by rw [hL,World.size_alloc])).asOwn flatStr 8 rfl [⟨#[100,101,115,107]⟩,⟨#[115,104,111,112]⟩] rfl rfl (by simp) rfl 2 rfl).frz 8 rfl;cases e2;replace S2:St b (m + 500 + 10 * k + 1 + 1) w ((w6.alloc (.cells #[.string ⟨#[115,104,111,112]⟩] 9)).alloc (.cells #[.string ⟨#[100,101,115,107]⟩,.string ⟨#[115,104,111,112]⟩] 9)) (JR w.heap.size R Z (.slice Ak zs.length ck) most (.slice Aw ws.length cw) (.slice As qs.length ca) Ak zs ws qs++[Chunk.loc X #[.string nm,.int .i64 how,.slice none 0 0] 124,.sl rStr (some ⟨L,0,none⟩) [⟨#[115,104,111,112]⟩],.sl rStr (some ⟨L + 1,0,none⟩) [⟨#[100,101,115,107]⟩,⟨#[115,104,111,112]⟩]]):=S2;obtain ⟨A3,c3,e3,S3⟩:=((S2.newAt #[.string ⟨#[97,112,112]⟩,.string ⟨#[110,111,119,104,101,114,101]⟩,.string ⟨#[100,101,115,107]⟩] 9 (L + 1 + 1) (by rw [hL,World.size_alloc,World.size_alloc])).asOwn flatStr 9 rfl [⟨#[97,112,112]⟩,⟨#[110,111,119,104,101,114,101]⟩,⟨#[100,101,115,107]⟩] rfl rfl (by simp) rfl 3 rfl).frz 9 rfl
      cases e3;replace S3:St b (m + 500 + 10 * k + 1 + 1) w (((w6.alloc (.cells #[.string ⟨#[115,104,111,112]⟩] 9)).alloc (.cells #[.string ⟨#[100,101,115,107]⟩,.string ⟨#[115,104,111,112]⟩] 9)).alloc (.cells #[.string ⟨#[97,112,112]⟩,.string ⟨#[110,111,119,104,101,114,101]⟩,.string ⟨#[100,101,115,107]⟩] 9)) (JR w.heap.size R Z (.slice Ak zs.length ck) most (.slice Aw ws.length cw) (.slice As qs.length ca) Ak zs ws qs++[Chunk.loc X #[.string nm,.int .i64 how,.slice none 0 0] 124,.sl rStr (some ⟨L,0,none⟩) [⟨#[115,104,111,112]⟩],.sl rStr (some ⟨L + 1,0,none⟩) [⟨#[100,101,115,107]⟩,⟨#[115,104,111,112]⟩],.sl rStr (some ⟨L + 1 + 1,0,none⟩) [⟨#[97,112,112]⟩,⟨#[110,111,119,104,101,114,101]⟩,⟨#[100,101,115,107]⟩]]):=S3;have S4:=S3.newAt #[.slice none 0 0,.slice (some ⟨L,0,none⟩) 1 1,.slice (some ⟨L + 1,0,none⟩) 2 2,.slice (some ⟨L + 1 + 1,0,none⟩) 3 3] 122 (L + 1 + 1 + 1) (by rw [hL,World.size_alloc,World.size_alloc,World.size_alloc]);replace S4:St b (m + 500 + 10 * k + 1 + 1) w ((((w6.alloc (.cells #[.string ⟨#[115,104,111,112]⟩] 9)).alloc (.cells #[.string ⟨#[100,101,115,107]⟩,.string ⟨#[115,104,111,112]⟩] 9)).alloc (.cells #[.string ⟨#[97,112,112]⟩,.string ⟨#[110,111,119,104,101,114,101]⟩,.string ⟨#[100,101,115,107]⟩] 9)).alloc (.cells #[.slice none 0 0,.slice (some ⟨L,0,none⟩) 1 1,.slice (some ⟨L + 1,0,none⟩) 2 2,.slice (some ⟨L + 1 + 1,0,none⟩) 3 3] 122)) ((JR w.heap.size R Z (.slice Ak zs.length ck) most (.slice Aw ws.length cw) (.slice As qs.length ca) Ak zs ws qs++[Chunk.loc X #[.string nm,.int .i64 how,.slice none 0 0] 124])++[Chunk.sl rStr (some ⟨L,0,none⟩) [⟨#[115,104,111,112]⟩],.sl rStr (some ⟨L + 1,0,none⟩) [⟨#[100,101,115,107]⟩,⟨#[115,104,111,112]⟩],.sl rStr (some ⟨L + 1 + 1,0,none⟩) [⟨#[97,112,112]⟩,⟨#[110,111,119,104,101,114,101]⟩,⟨#[100,101,115,107]⟩],.loc (L + 1 + 1 + 1) #[.slice none 0 0,.slice (some ⟨L,0,none⟩) 1 1,.slice (some ⟨L + 1,0,none⟩) 2 2,.slice (some ⟨L + 1 + 1,0,none⟩) 3 3] 122]):=S4
      clear S S1 S2 S3;have S:=S4;clear S4;go_wp2_with fail
      rw [← hL];clear hL;generalize (((w6.alloc (.cells #[.string ⟨#[115,104,111,112]⟩] 9)).alloc (.cells #[.string ⟨#[100,101,115,107]⟩,.string ⟨#[115,104,111,112]⟩] 9)).alloc (.cells #[.string ⟨#[97,112,112]⟩,.string ⟨#[110,111,119,104,101,114,101]⟩,.string ⟨#[100,101,115,107]⟩] 9)).alloc (.cells #[.slice none 0 0,.slice (some ⟨L,0,none⟩) 1 1,.slice (some ⟨L + 1,0,none⟩) 2 2,.slice (some ⟨L + 1 + 1,0,none⟩) 3 3] 122)=w7 at *;go_wp2_with fail
      refine (next_any b _ _ _ S.g.s (by omega) (by omega) (by omega)).mono ?_;rintro e w8 ⟨r8,r8_lo,r8_hi,rfl,hk_w8,hs_w8⟩;replace S:=S.step hk_w8 hs_w8;clear hk_w8 hs_w8;obtain rfl | rfl | rfl | rfl:r8=0∨r8=1∨r8=2∨r8=3:=by omega
      ·have l0:=(S.lv 10 rfl).all;have x0:=(S.lv 6 rfl).all;go_upto_region 9 with fail
       clear l0 x0;have S1:=S.swapFor (.sl rStr none []) rfl (by exact Sl.nil);clear S;have S2:=S1.set 6 2 (.slice none 0 0) rfl;clear S1;generalize w8.setCell ⟨X,2,none⟩ (.slice none 0 0)=w9 at *;replace S2:St b (m + 500 + 10 * k + 1 + 1 + 1) w w9 (JR w.heap.size R Z (.slice Ak zs.length ck) most (.slice Aw ws.length cw) (.slice As qs.length ca) Ak zs ws qs++[.loc X #[.string nm,.int .i64 how,.slice none 0 0] 124,.sl rStr none []]):=S2;have S:=S2;clear S2;obtain ⟨x,hx⟩:∃ x:SQ,x=(⟨⟨nm,how,[]⟩,none,0⟩:SQ):=⟨_,rfl⟩;have Hsm:Hid (SqSm x):=by
        rw [hx];exact ⟨hnm,(show ([]:List ByteArray).length≤3 by decide),(show ∀ x∈([]:List ByteArray),x.size≤100 by decide)⟩
       have S5:=S.addSd 5 rfl x (by rw [hx];exact Nat.le_refl _) (by rw [hx];exact S.slc 7 rfl);replace S:St b (m + 500 + 10 * k + 5) w w9 [.loc R jzCs 29,.loc Z #[.slice Ak zs.length ck,.int .i64 most,.slice Aw ws.length cw,.slice As qs.length ca] 29,.sl rInt Ak zs,.own rId w.heap.size 46 (.slice Aw ws.length cw) ws,.own rSQ w.heap.size 124 (.slice As qs.length ca) qs,.sdat (qs++[x]),.loc X #[.string x.s.name,.int .i64 x.s.how,.slice x.A x.s.srcs.length x.c] 124]:=by
        rw [show #[Value.string x.s.name,.int .i64 x.s.how,.slice x.A x.s.srcs.length x.c]=#[.string nm,.int .i64 how,.slice (SQ.A (⟨⟨nm,how,[]⟩,none,0⟩:SQ)) (SQ.s (⟨⟨nm,how,[]⟩,none,0⟩:SQ)).srcs.length (SQ.c (⟨⟨nm,how,[]⟩,none,0⟩:SQ))] by rw [hx]];exact St.mono (m:=m + 500 + 10 * k + 1 + 1 + 1) (S5.del 7) (by omega)
       clear S5;have z1:=(S.lv 1 rfl).all;have x1:=(S.lv 6 rfl).all;have hsz:=S.g.size;have hql:qs.length≤200:=by have:=Hql.out;omega
       clear hx;go_wp2_with (at_builtin;refine S.app 4 rfl tySrv rfl _ _ rfl x 1 rfl rfl rfl (oneSQ x) hsz (by omega) (by decide) ?_;intro v' w10 S6;obtain ⟨q2,hq2⟩:∃ q2,qs++[x]=q2:=⟨_,rfl⟩;rw [hq2] at S6;have Hq2:=Lib.hid hq2;clear hq2;obtain ⟨A6,c6,rfl⟩:=(S6.ow 4 rfl).len;have z2:=(S6.lv 1 rfl).all)
       go_roundw
       case rel =>
        refine ⟨k + 1,A6,c6,q2,by omega,by go_num,?_,?_,St.mono (m:=m + 500 + 10 * k + 5) ((S6.set 1 3 (.slice A6 q2.length c6) rfl).del 6) (by omega)⟩
        ·show _≤_;have:=Hql.out
         rw [← Hq2.out];simp;omega
        ·intro q hq;rw [← Hq2.out] at hq;rcases List.mem_append.1 hq with hq | hq
         ·exact Hqs.out q hq
         ·rw [List.mem_singleton.1 hq];exact Hsm.out
       case measure=>simp [intOf];omega
      ·have l0:=(S.lv 10 rfl).all;have x0:=(S.lv 6 rfl).all;go_upto_region 9 with fail
       clear l0 x0;have S1:=S.swapFor (.sl rStr (some ⟨L,0,none⟩) [⟨#[115,104,111,112]⟩]) rfl (by exact (S.slc 7 rfl).mono (fun _ _ h=>mut_left h));clear S;have S2:=S1.set 6 2 (.slice (some ⟨L,0,none⟩) 1 1) rfl;clear S1;generalize w8.setCell ⟨X,2,none⟩ (.slice (some ⟨L,0,none⟩) 1 1)=w9 at *;replace S2:St b (m + 500 + 10 * k + 1 + 1 + 1) w w9 (JR w.heap.size R Z (.slice Ak zs.length ck) most (.slice Aw ws.length cw) (.slice As qs.length ca) Ak zs ws qs++[.loc X #[.string nm,.int .i64 how,.slice (some ⟨L,0,none⟩) 1 1] 124,.sl rStr (some ⟨L,0,none⟩) [⟨#[115,104,111,112]⟩]]):=S2;have S:=S2;clear S2;obtain ⟨x,hx⟩:∃ x:SQ,x=(⟨⟨nm,how,[⟨#[115,104,111,112]⟩]⟩,(some ⟨L,0,none⟩),1⟩:SQ):=⟨_,rfl⟩;have Hsm:Hid (SqSm x):=by
        rw [hx];exact ⟨hnm,(show ([⟨#[115,104,111,112]⟩]:List ByteArray).length≤3 by decide),(show ∀ x∈([⟨#[115,104,111,112]⟩]:List ByteArray),x.size≤100 by decide)⟩
       have S5:=S.addSd 5 rfl x (by rw [hx];exact Nat.le_refl _) (by rw [hx];exact S.slc 7 rfl);replace S:St b (m + 500 + 10 * k + 5) w w9 [.loc R jzCs 29,.loc Z #[.slice Ak zs.length ck,.int .i64 most,.slice Aw ws.length cw,.slice As qs.length ca] 29,.sl rInt Ak zs,.own rId w.heap.size 46 (.slice Aw ws.length cw) ws,.own rSQ w.heap.size 124 (.slice As qs.length ca) qs,.sdat (qs++[x]),.loc X #[.string x.s.name,.int .i64 x.s.how,.slice x.A x.s.srcs.length x.c] 124]:=by
        rw [show #[Value.string x.s.name,.int .i64 x.s.how,.slice x.A x.s.srcs.length x.c]=#[.string nm,.int .i64 how,.slice (SQ.A (⟨⟨nm,how,[⟨#[115,104,111,112]⟩]⟩,(some ⟨L,0,none⟩),1⟩:SQ)) (SQ.s (⟨⟨nm,how,[⟨#[115,104,111,112]⟩]⟩,(some ⟨L,0,none⟩),1⟩:SQ)).srcs.length (SQ.c (⟨⟨nm,how,[⟨#[115,104,111,112]⟩]⟩,(some ⟨L,0,none⟩),1⟩:SQ))] by rw [hx]];exact St.mono (m:=m + 500 + 10 * k + 1 + 1 + 1) (S5.del 7) (by omega)
       clear S5;have z1:=(S.lv 1 rfl).all;have x1:=(S.lv 6 rfl).all;have hsz:=S.g.size;have hql:qs.length≤200:=by have:=Hql.out;omega
       clear hx;go_wp2_with (at_builtin;refine S.app 4 rfl tySrv rfl _ _ rfl x 1 rfl rfl rfl (oneSQ x) hsz (by omega) (by decide) ?_;intro v' w10 S6;obtain ⟨q2,hq2⟩:∃ q2,qs++[x]=q2:=⟨_,rfl⟩;rw [hq2] at S6;have Hq2:=Lib.hid hq2;clear hq2;obtain ⟨A6,c6,rfl⟩:=(S6.ow 4 rfl).len;have z2:=(S6.lv 1 rfl).all)
       go_roundw
       case rel =>
        refine ⟨k + 1,A6,c6,q2,by omega,by go_num,?_,?_,St.mono (m:=m + 500 + 10 * k + 5) ((S6.set 1 3 (.slice A6 q2.length c6) rfl).del 6) (by omega)⟩
        ·show _≤_;have:=Hql.out
         rw [← Hq2.out];simp;omega
        ·intro q hq;rw [← Hq2.out] at hq;rcases List.mem_append.1 hq with hq | hq
         ·exact Hqs.out q hq
         ·rw [List.mem_singleton.1 hq];exact Hsm.out
       case measure=>simp [intOf];omega
      ·have l0:=(S.lv 10 rfl).all;have x0:=(S.lv 6 rfl).all;go_upto_region 9 with fail
       clear l0 x0;have S1:=S.swapFor (.sl rStr (some ⟨L + 1,0,none⟩) [⟨#[100,101,115,107]⟩,⟨#[115,104,111,112]⟩]) rfl (by exact (S.slc 8 rfl).mono (fun _ _ h=>mut_left h));clear S;have S2:=S1.set 6 2 (.slice (some ⟨L + 1,0,none⟩) 2 2) rfl;clear S1;generalize w8.setCell ⟨X,2,none⟩ (.slice (some ⟨L + 1,0,none⟩) 2 2)=w9 at *;replace S2:St b (m + 500 + 10 * k + 1 + 1 + 1) w w9 (JR w.heap.size R Z (.slice Ak zs.length ck) most (.slice Aw ws.length cw) (.slice As qs.length ca) Ak zs ws qs++[.loc X #[.string nm,.int .i64 how,.slice (some ⟨L + 1,0,none⟩) 2 2] 124,.sl rStr (some ⟨L + 1,0,none⟩) [⟨#[100,101,115,107]⟩,⟨#[115,104,111,112]⟩]]):=S2;have S:=S2;clear S2;obtain ⟨x,hx⟩:∃ x:SQ,x=(⟨⟨nm,how,[⟨#[100,101,115,107]⟩,⟨#[115,104,111,112]⟩]⟩,(some ⟨L + 1,0,none⟩),2⟩:SQ):=⟨_,rfl⟩;have Hsm:Hid (SqSm x):=by
        rw [hx];exact ⟨hnm,(show ([⟨#[100,101,115,107]⟩,⟨#[115,104,111,112]⟩]:List ByteArray).length≤3 by decide),(show ∀ x∈([⟨#[100,101,115,107]⟩,⟨#[115,104,111,112]⟩]:List ByteArray),x.size≤100 by decide)⟩
       have S5:=S.addSd 5 rfl x (by rw [hx];exact Nat.le_refl _) (by rw [hx];exact S.slc 7 rfl);replace S:St b (m + 500 + 10 * k + 5) w w9 [.loc R jzCs 29,.loc Z #[.slice Ak zs.length ck,.int .i64 most,.slice Aw ws.length cw,.slice As qs.length ca] 29,.sl rInt Ak zs,.own rId w.heap.size 46 (.slice Aw ws.length cw) ws,.own rSQ w.heap.size 124 (.slice As qs.length ca) qs,.sdat (qs++[x]),.loc X #[.string x.s.name,.int .i64 x.s.how,.slice x.A x.s.srcs.length x.c] 124]:=by
        rw [show #[Value.string x.s.name,.int .i64 x.s.how,.slice x.A x.s.srcs.length x.c]=#[.string nm,.int .i64 how,.slice (SQ.A (⟨⟨nm,how,[⟨#[100,101,115,107]⟩,⟨#[115,104,111,112]⟩]⟩,(some ⟨L + 1,0,none⟩),2⟩:SQ)) (SQ.s (⟨⟨nm,how,[⟨#[100,101,115,107]⟩,⟨#[115,104,111,112]⟩]⟩,(some ⟨L + 1,0,none⟩),2⟩:SQ)).srcs.length (SQ.c (⟨⟨nm,how,[⟨#[100,101,115,107]⟩,⟨#[115,104,111,112]⟩]⟩,(some ⟨L + 1,0,none⟩),2⟩:SQ))] by rw [hx]];exact St.mono (m:=m + 500 + 10 * k + 1 + 1 + 1) (S5.del 7) (by omega)
       clear S5;have z1:=(S.lv 1 rfl).all;have x1:=(S.lv 6 rfl).all;have hsz:=S.g.size;have hql:qs.length≤200:=by have:=Hql.out;omega
       clear hx;go_wp2_with (at_builtin;refine S.app 4 rfl tySrv rfl _ _ rfl x 1 rfl rfl rfl (oneSQ x) hsz (by omega) (by decide) ?_;intro v' w10 S6;obtain ⟨q2,hq2⟩:∃ q2,qs++[x]=q2:=⟨_,rfl⟩;rw [hq2] at S6;have Hq2:=Lib.hid hq2;clear hq2;obtain ⟨A6,c6,rfl⟩:=(S6.ow 4 rfl).len;have z2:=(S6.lv 1 rfl).all)
       go_roundw
       case rel =>
        refine ⟨k + 1,A6,c6,q2,by omega,by go_num,?_,?_,St.mono (m:=m + 500 + 10 * k + 5) ((S6.set 1 3 (.slice A6 q2.length c6) rfl).del 6) (by omega)⟩
        ·show _≤_;have:=Hql.out
         rw [← Hq2.out];simp;omega
        ·intro q hq;rw [← Hq2.out] at hq;rcases List.mem_append.1 hq with hq | hq
         ·exact Hqs.out q hq
         ·rw [List.mem_singleton.1 hq];exact Hsm.out
       case measure=>simp [intOf];omega
      ·have l0:=(S.lv 10 rfl).all;have x0:=(S.lv 6 rfl).all;go_upto_region 9 with fail
       clear l0 x0;have S1:=S.swapFor (.sl rStr (some ⟨L + 1 + 1,0,none⟩) [⟨#[97,112,112]⟩,⟨#[110,111,119,104,101,114,101]⟩,⟨#[100,101,115,107]⟩]) rfl (by exact (S.slc 9 rfl).mono (fun _ _ h=>mut_left h));clear S;have S2:=S1.set 6 2 (.slice (some ⟨L + 1 + 1,0,none⟩) 3 3) rfl;clear S1;generalize w8.setCell ⟨X,2,none⟩ (.slice (some ⟨L + 1 + 1,0,none⟩) 3 3)=w9 at *;replace S2:St b (m + 500 + 10 * k + 1 + 1 + 1) w w9 (JR w.heap.size R Z (.slice Ak zs.length ck) most (.slice Aw ws.length cw) (.slice As qs.length ca) Ak zs ws qs++[.loc X #[.string nm,.int .i64 how,.slice (some ⟨L + 1 + 1,0,none⟩) 3 3] 124,.sl rStr (some ⟨L + 1 + 1,0,none⟩) [⟨#[97,112,112]⟩,⟨#[110,111,119,104,101,114,101]⟩,⟨#[100,101,115,107]⟩]]):=S2;have S:=S2;clear S2;obtain ⟨x,hx⟩:∃ x:SQ,x=(⟨⟨nm,how,[⟨#[97,112,112]⟩,⟨#[110,111,119,104,101,114,101]⟩,⟨#[100,101,115,107]⟩]⟩,(some ⟨L + 1 + 1,0,none⟩),3⟩:SQ):=⟨_,rfl⟩;have Hsm:Hid (SqSm x):=by
        rw [hx];exact ⟨hnm,(show ([⟨#[97,112,112]⟩,⟨#[110,111,119,104,101,114,101]⟩,⟨#[100,101,115,107]⟩]:List ByteArray).length≤3 by decide),(show ∀ x∈([⟨#[97,112,112]⟩,⟨#[110,111,119,104,101,114,101]⟩,⟨#[100,101,115,107]⟩]:List ByteArray),x.size≤100 by decide)⟩
       have S5:=S.addSd 5 rfl x (by rw [hx];exact Nat.le_refl _) (by rw [hx];exact S.slc 7 rfl);replace S:St b (m + 500 + 10 * k + 5) w w9 [.loc R jzCs 29,.loc Z #[.slice Ak zs.length ck,.int .i64 most,.slice Aw ws.length cw,.slice As qs.length ca] 29,.sl rInt Ak zs,.own rId w.heap.size 46 (.slice Aw ws.length cw) ws,.own rSQ w.heap.size 124 (.slice As qs.length ca) qs,.sdat (qs++[x]),.loc X #[.string x.s.name,.int .i64 x.s.how,.slice x.A x.s.srcs.length x.c] 124]:=by
        rw [show #[Value.string x.s.name,.int .i64 x.s.how,.slice x.A x.s.srcs.length x.c]=#[.string nm,.int .i64 how,.slice (SQ.A (⟨⟨nm,how,[⟨#[97,112,112]⟩,⟨#[110,111,119,104,101,114,101]⟩,⟨#[100,101,115,107]⟩]⟩,(some ⟨L + 1 + 1,0,none⟩),3⟩:SQ)) (SQ.s (⟨⟨nm,how,[⟨#[97,112,112]⟩,⟨#[110,111,119,104,101,114,101]⟩,⟨#[100,101,115,107]⟩]⟩,(some ⟨L + 1 + 1,0,none⟩),3⟩:SQ)).srcs.length (SQ.c (⟨⟨nm,how,[⟨#[97,112,112]⟩,⟨#[110,111,119,104,101,114,101]⟩,⟨#[100,101,115,107]⟩]⟩,(some ⟨L + 1 + 1,0,none⟩),3⟩:SQ))] by rw [hx]];exact St.mono (m:=m + 500 + 10 * k + 1 + 1 + 1) (S5.del 7) (by omega)
       clear S5;have z1:=(S.lv 1 rfl).all;have x1:=(S.lv 6 rfl).all;have hsz:=S.g.size;have hql:qs.length≤200:=by have:=Hql.out;omega
       clear hx;go_wp2_with (at_builtin;refine S.app 4 rfl tySrv rfl _ _ rfl x 1 rfl rfl rfl (oneSQ x) hsz (by omega) (by decide) ?_;intro v' w10 S6;obtain ⟨q2,hq2⟩:∃ q2,qs++[x]=q2:=⟨_,rfl⟩;rw [hq2] at S6;have Hq2:=Lib.hid hq2;clear hq2;obtain ⟨A6,c6,rfl⟩:=(S6.ow 4 rfl).len;have z2:=(S6.lv 1 rfl).all)
       go_roundw
       case rel =>
        refine ⟨k + 1,A6,c6,q2,by omega,by go_num,?_,?_,St.mono (m:=m + 500 + 10 * k + 5) ((S6.set 1 3 (.slice A6 q2.length c6) rfl).del 6) (by omega)⟩
        ·show _≤_;have:=Hql.out
         rw [← Hq2.out];simp;omega
        ·intro q hq;rw [← Hq2.out] at hq;rcases List.mem_append.1 hq with hq | hq
         ·exact Hqs.out q hq
         ·rw [List.mem_singleton.1 hq];exact Hsm.out
       case measure=>simp [intOf];omega
     ·have h5':(how==5)=false:=by simpa using h5
      clear h5;have x0:=(S.lv 6 rfl).all;go_upto_region 9 with fail
      clear x0;obtain ⟨x,hx⟩:∃ x:SQ,x=(⟨⟨nm,how,[]⟩,none,0⟩:SQ):=⟨_,rfl⟩;have Hsm:Hid (SqSm x):=by
       rw [hx];exact ⟨hnm,Nat.zero_le _,fun x hx=>by cases hx⟩
      have S5:=S.addSd 5 rfl x (by rw [hx];exact Nat.le_refl _) (by rw [hx];exact Sl.nil);replace S:St b (m + 500 + 10 * k + 5) w w6 [.loc R jzCs 29,.loc Z #[.slice Ak zs.length ck,.int .i64 most,.slice Aw ws.length cw,.slice As qs.length ca] 29,.sl rInt Ak zs,.own rId w.heap.size 46 (.slice Aw ws.length cw) ws,.own rSQ w.heap.size 124 (.slice As qs.length ca) qs,.sdat (qs++[x]),.loc X #[.string x.s.name,.int .i64 x.s.how,.slice x.A x.s.srcs.length x.c] 124]:=by
       rw [show #[Value.string x.s.name,.int .i64 x.s.how,.slice x.A x.s.srcs.length x.c]=#[.string nm,.int .i64 how,.slice (SQ.A (⟨⟨nm,how,[]⟩,none,0⟩:SQ)) (SQ.s (⟨⟨nm,how,[]⟩,none,0⟩:SQ)).srcs.length (SQ.c (⟨⟨nm,how,[]⟩,none,0⟩:SQ))] by rw [hx]];exact St.mono (m:=m + 500 + 10 * k + 1 + 1) S5 (by omega)
      clear S5;have z1:=(S.lv 1 rfl).all;have x1:=(S.lv 6 rfl).all;have hsz:=S.g.size;have hql:qs.length≤200:=by have:=Hql.out;omega
      clear hx;go_wp2_with (at_builtin;refine S.app 4 rfl tySrv rfl _ _ rfl x 1 rfl rfl rfl (oneSQ x) hsz (by omega) (by decide) ?_;intro v' w10 S6;obtain ⟨q2,hq2⟩:∃ q2,qs++[x]=q2:=⟨_,rfl⟩;rw [hq2] at S6;have Hq2:=Lib.hid hq2;clear hq2;obtain ⟨A6,c6,rfl⟩:=(S6.ow 4 rfl).len;have z2:=(S6.lv 1 rfl).all)
      go_roundw
      case rel =>
       refine ⟨k + 1,A6,c6,q2,by omega,by go_num,?_,?_,St.mono (m:=m + 500 + 10 * k + 5) ((S6.set 1 3 (.slice A6 q2.length c6) rfl).del 6) (by omega)⟩
       ·show _≤_;have:=Hql.out
        rw [← Hq2.out];simp;omega
       ·intro q hq;rw [← Hq2.out] at hq;rcases List.mem_append.1 hq with hq | hq
        ·exact Hqs.out q hq
        ·rw [List.mem_singleton.1 hq];exact Hsm.out
      case measure=>simp [intOf];omega
    --@enddev
   ·obtain rfl:k=6:=by omega
    clear hlt6;go_wp2_with fail
    refine (flip_any b _ _ _ S.g.s (by omega) (by omega) (by omega)).mono ?_;rintro e w4 ⟨r4,rfl,hk_w4,hs_w4⟩;replace S:=S.step hk_w4 hs_w4;clear hk_w4 hs_w4;cases r4
    ·have y0:=(S.lv 0 rfl).all;have y1:=(S.lv 1 rfl).all;have S9:=(((S.set 0 0 (.slice Ak (zs:List Int).length ck) rfl).set 0 1 (.int .i64 most) rfl).set 0 2 (.slice Aw (ws:List IdV).length cw) rfl).set 0 3 (.slice As (qs:List SQ).length ca) rfl;go_wp2_with fail
     obtain ⟨A1,c1,e1,T1⟩:=S9.frz 3 rfl;cases e1;obtain ⟨A2,c2,e2,T2⟩:=T1.frz 4 rfl;cases e2;have T3:=T2.srvs 4 5 rfl rfl;exact bodyPost_ret (results_cell1 rfl rfl (loadJr (S9.lv 0 rfl))) rfl ⟨⟨zs,most,ws,(qs).map SQ.s⟩,Ak,ck,Aw,cw,As,ca,(by simp [ruCs]),rul_small (qs) Hqs.out (by have:=Hql.out;omega) Hzl.out Hwl.out Hwt.out,(((T3.del 5).del 1).del 0).mono (by omega)⟩
    ·replace S:St b (m + 570) w w4 (JR w.heap.size R Z (.slice Ak zs.length ck) most (.slice Aw ws.length cw) (.slice As qs.length ca) Ak zs ws qs):=S.mono (by omega);go_wp2_with fail
     refine (next_any b _ _ _ S.g.s (by omega) (by omega) (by omega)).mono ?_;rintro e w5 ⟨r5,r5_lo,r5_hi,rfl,hk_w5,hs_w5⟩;replace S:=S.step hk_w5 hs_w5;clear hk_w5 hs_w5;obtain rfl | rfl | rfl | rfl | rfl | rfl:r5=0∨r5=1∨r5=2∨r5=3∨r5=4∨r5=5:=by omega
     ·skip
      --@dev
      obtain ⟨L,hL⟩:∃ L,L=w5.heap.size:=⟨_,rfl⟩;obtain ⟨A1,c1,e1,S1⟩:=((S.newAt #[.int .i64 2,.int .i64 1] 3 (L) hL).asOwn flatInt 6 rfl [2,1] rfl rfl (by simp) rfl 2 rfl).frz 6 rfl;cases e1;replace S1:St b (m + 570 + 1) w ((w5).alloc (.cells #[.int .i64 2,.int .i64 1] 3)) (JR w.heap.size R Z (.slice Ak zs.length ck) most (.slice Aw ws.length cw) (.slice As qs.length ca) Ak zs ws qs++[Chunk.sl rInt (some ⟨L,0,none⟩) [2,1]]):=S1;obtain ⟨A2,c2,e2,S2⟩:=((S1.newAt #[.int .i64 0] 3 (L + 1) (by rw [hL,World.size_alloc])).asOwn flatInt 7 rfl [0] rfl rfl (by simp) rfl 1 rfl).frz 7 rfl;cases e2;replace S2:St b (m + 570 + 1) w (((w5).alloc (.cells #[.int .i64 2,.int .i64 1] 3)).alloc (.cells #[.int .i64 0] 3)) (JR w.heap.size R Z (.slice Ak zs.length ck) most (.slice Aw ws.length cw) (.slice As qs.length ca) Ak zs ws qs++[Chunk.sl rInt (some ⟨L,0,none⟩) [2,1],Chunk.sl rInt (some ⟨L + 1,0,none⟩) [0]]):=S2;obtain ⟨A3,c3,e3,S3⟩:=((S2.newAt #[.int .i64 5] 3 (L + 1 + 1) (by rw [hL,World.size_alloc,World.size_alloc])).asOwn flatInt 8 rfl [5] rfl rfl (by simp) rfl 1 rfl).frz 8 rfl;cases e3;replace S3:St b (m + 570 + 1) w ((((w5).alloc (.cells #[.int .i64 2,.int .i64 1] 3)).alloc (.cells #[.int .i64 0] 3)).alloc (.cells #[.int .i64 5] 3)) (JR w.heap.size R Z (.slice Ak zs.length ck) most (.slice Aw ws.length cw) (.slice As qs.length ca) Ak zs ws qs++[Chunk.sl rInt (some ⟨L,0,none⟩) [2,1],Chunk.sl rInt (some ⟨L + 1,0,none⟩) [0],Chunk.sl rInt (some ⟨L + 1 + 1,0,none⟩) [5]]):=S3;obtain ⟨A4,c4,e4,S4⟩:=((S3.newAt #[.int .i64 1,.int .i64 1] 3 (L + 1 + 1 + 1) (by rw [hL,World.size_alloc,World.size_alloc,World.size_alloc])).asOwn flatInt 9 rfl [1,1] rfl rfl (by simp) rfl 2 rfl).frz 9 rfl
      cases e4;replace S4:St b (m + 570 + 1) w (((((w5).alloc (.cells #[.int .i64 2,.int .i64 1] 3)).alloc (.cells #[.int .i64 0] 3)).alloc (.cells #[.int .i64 5] 3)).alloc (.cells #[.int .i64 1,.int .i64 1] 3)) (JR w.heap.size R Z (.slice Ak zs.length ck) most (.slice Aw ws.length cw) (.slice As qs.length ca) Ak zs ws qs++[Chunk.sl rInt (some ⟨L,0,none⟩) [2,1],Chunk.sl rInt (some ⟨L + 1,0,none⟩) [0],Chunk.sl rInt (some ⟨L + 1 + 1,0,none⟩) [5],Chunk.sl rInt (some ⟨L + 1 + 1 + 1,0,none⟩) [1,1]]):=S4;have S5:=S4.newAt #[.slice none 0 0,.slice (some ⟨L,0,none⟩) 2 2,.slice (some ⟨L + 1,0,none⟩) 1 1,.slice (some ⟨L + 1 + 1,0,none⟩) 1 1,.slice (some ⟨L + 1 + 1 + 1,0,none⟩) 2 2] 22 (L + 1 + 1 + 1 + 1) (by rw [hL,World.size_alloc,World.size_alloc,World.size_alloc,World.size_alloc]);replace S5:St b (m + 570 + 1) w ((((((w5).alloc (.cells #[.int .i64 2,.int .i64 1] 3)).alloc (.cells #[.int .i64 0] 3)).alloc (.cells #[.int .i64 5] 3)).alloc (.cells #[.int .i64 1,.int .i64 1] 3)).alloc (.cells #[.slice none 0 0,.slice (some ⟨L,0,none⟩) 2 2,.slice (some ⟨L + 1,0,none⟩) 1 1,.slice (some ⟨L + 1 + 1,0,none⟩) 1 1,.slice (some ⟨L + 1 + 1 + 1,0,none⟩) 2 2] 22)) (JR w.heap.size R Z (.slice Ak zs.length ck) most (.slice Aw ws.length cw) (.slice As qs.length ca) Ak zs ws qs++[Chunk.sl rInt (some ⟨L,0,none⟩) [2,1],Chunk.sl rInt (some ⟨L + 1,0,none⟩) [0],Chunk.sl rInt (some ⟨L + 1 + 1,0,none⟩) [5],Chunk.sl rInt (some ⟨L + 1 + 1 + 1,0,none⟩) [1,1],.loc (L + 1 + 1 + 1 + 1) #[.slice none 0 0,.slice (some ⟨L,0,none⟩) 2 2,.slice (some ⟨L + 1,0,none⟩) 1 1,.slice (some ⟨L + 1 + 1,0,none⟩) 1 1,.slice (some ⟨L + 1 + 1 + 1,0,none⟩) 2 2] 22]):=S5
      clear S S1 S2 S3 S4;have S:=S5;clear S5;go_wp2_with fail
      rw [← hL];clear hL;generalize (((((w5).alloc (.cells #[.int .i64 2,.int .i64 1] 3)).alloc (.cells #[.int .i64 0] 3)).alloc (.cells #[.int .i64 5] 3)).alloc (.cells #[.int .i64 1,.int .i64 1] 3)).alloc (.cells #[.slice none 0 0,.slice (some ⟨L,0,none⟩) 2 2,.slice (some ⟨L + 1,0,none⟩) 1 1,.slice (some ⟨L + 1 + 1,0,none⟩) 1 1,.slice (some ⟨L + 1 + 1 + 1,0,none⟩) 2 2] 22)=w6 at *;go_wp2_with fail
      refine (next_any b _ _ _ S.g.s (by omega) (by omega) (by omega)).mono ?_;rintro e w7 ⟨r7,r7_lo,r7_hi,rfl,hk_w7,hs_w7⟩;replace S:=S.step hk_w7 hs_w7;clear hk_w7 hs_w7;obtain rfl | rfl | rfl | rfl | rfl:r7=0∨r7=1∨r7=2∨r7=3∨r7=4:=by omega
      ·have l0:=(S.lv 10 rfl).all;have x0:=(S.lv 1 rfl).all;go_upto_region 27 with fail
       clear l0 x0;have hSl:Sl rInt (Mut w.heap.size (JR w.heap.size R Z (.slice Ak zs.length ck) most (.slice Aw ws.length cw) (.slice As qs.length ca) Ak zs ws qs)) w7 none []:=Sl.nil;replace S:St b (m + 570 + 1 + 1) w w7 (JR w.heap.size R Z (.slice Ak zs.length ck) most (.slice Aw ws.length cw) (.slice As qs.length ca) Ak zs ws qs):=S.left;have S2:=(S.turn 2 rfl (.sl rInt none []) rfl hSl).set 1 0 (.slice none 0 0) rfl;clear S hSl;generalize w7.setCell ⟨Z,0,none⟩ (.slice none 0 0)=w8 at *;have S:St b (m + 580) w w8 (JR w.heap.size R Z (.slice none ([]:List Int).length 0) most (.slice Aw ws.length cw) (.slice As qs.length ca) none [] ws qs):=St.mono (m:=m + 570 + 1 + 1) S2 (by omega);clear S2;replace Hzl:Hid (([]:List Int).length≤4):=by show _≤_;decide
       have y0:=(S.lv 0 rfl).all;have y1:=(S.lv 1 rfl).all;have S9:=(((S.set 0 0 (.slice none ([]:List Int).length 0) rfl).set 0 1 (.int .i64 most) rfl).set 0 2 (.slice Aw (ws:List IdV).length cw) rfl).set 0 3 (.slice As (qs:List SQ).length ca) rfl;go_wp2_with fail
       obtain ⟨A1,c1,e1,T1⟩:=S9.frz 3 rfl;cases e1;obtain ⟨A2,c2,e2,T2⟩:=T1.frz 4 rfl;cases e2;have T3:=T2.srvs 4 5 rfl rfl;exact bodyPost_ret (results_cell1 rfl rfl (loadJr (S9.lv 0 rfl))) rfl ⟨⟨[],most,ws,(qs).map SQ.s⟩,none,0,Aw,cw,As,ca,(by simp [ruCs]),rul_small (qs) Hqs.out (by have:=Hql.out;omega) Hzl.out Hwl.out Hwt.out,(((T3.del 5).del 1).del 0).mono (by omega)⟩
      ·have l0:=(S.lv 10 rfl).all;have x0:=(S.lv 1 rfl).all;go_upto_region 27 with fail
       clear l0 x0;have hSl:Sl rInt (Mut w.heap.size (JR w.heap.size R Z (.slice Ak zs.length ck) most (.slice Aw ws.length cw) (.slice As qs.length ca) Ak zs ws qs)) w7 (some ⟨L,0,none⟩) [2,1]:=(S.slc 6 rfl).mono (fun _ _ h=>mut_left h);replace S:St b (m + 570 + 1 + 1) w w7 (JR w.heap.size R Z (.slice Ak zs.length ck) most (.slice Aw ws.length cw) (.slice As qs.length ca) Ak zs ws qs):=S.left;have S2:=(S.turn 2 rfl (.sl rInt (some ⟨L,0,none⟩) [2,1]) rfl hSl).set 1 0 (.slice (some ⟨L,0,none⟩) 2 2) rfl;clear S hSl;generalize w7.setCell ⟨Z,0,none⟩ (.slice (some ⟨L,0,none⟩) 2 2)=w8 at *;have S:St b (m + 580) w w8 (JR w.heap.size R Z (.slice (some ⟨L,0,none⟩) ([2,1]:List Int).length 2) most (.slice Aw ws.length cw) (.slice As qs.length ca) (some ⟨L,0,none⟩) [2,1] ws qs):=St.mono (m:=m + 570 + 1 + 1) S2 (by omega);clear S2;replace Hzl:Hid (([2,1]:List Int).length≤4):=by show _≤_;decide
       have y0:=(S.lv 0 rfl).all;have y1:=(S.lv 1 rfl).all;have S9:=(((S.set 0 0 (.slice (some ⟨L,0,none⟩) ([2,1]:List Int).length 2) rfl).set 0 1 (.int .i64 most) rfl).set 0 2 (.slice Aw (ws:List IdV).length cw) rfl).set 0 3 (.slice As (qs:List SQ).length ca) rfl;go_wp2_with fail
       obtain ⟨A1,c1,e1,T1⟩:=S9.frz 3 rfl;cases e1;obtain ⟨A2,c2,e2,T2⟩:=T1.frz 4 rfl;cases e2;have T3:=T2.srvs 4 5 rfl rfl;exact bodyPost_ret (results_cell1 rfl rfl (loadJr (S9.lv 0 rfl))) rfl ⟨⟨[2,1],most,ws,(qs).map SQ.s⟩,(some ⟨L,0,none⟩),2,Aw,cw,As,ca,(by simp [ruCs]),rul_small (qs) Hqs.out (by have:=Hql.out;omega) Hzl.out Hwl.out Hwt.out,(((T3.del 5).del 1).del 0).mono (by omega)⟩
      ·have l0:=(S.lv 10 rfl).all;have x0:=(S.lv 1 rfl).all;go_upto_region 27 with fail
       clear l0 x0;have hSl:Sl rInt (Mut w.heap.size (JR w.heap.size R Z (.slice Ak zs.length ck) most (.slice Aw ws.length cw) (.slice As qs.length ca) Ak zs ws qs)) w7 (some ⟨L + 1,0,none⟩) [0]:=(S.slc 7 rfl).mono (fun _ _ h=>mut_left h);replace S:St b (m + 570 + 1 + 1) w w7 (JR w.heap.size R Z (.slice Ak zs.length ck) most (.slice Aw ws.length cw) (.slice As qs.length ca) Ak zs ws qs):=S.left;have S2:=(S.turn 2 rfl (.sl rInt (some ⟨L + 1,0,none⟩) [0]) rfl hSl).set 1 0 (.slice (some ⟨L + 1,0,none⟩) 1 1) rfl;clear S hSl;generalize w7.setCell ⟨Z,0,none⟩ (.slice (some ⟨L + 1,0,none⟩) 1 1)=w8 at *;have S:St b (m + 580) w w8 (JR w.heap.size R Z (.slice (some ⟨L + 1,0,none⟩) ([0]:List Int).length 1) most (.slice Aw ws.length cw) (.slice As qs.length ca) (some ⟨L + 1,0,none⟩) [0] ws qs):=St.mono (m:=m + 570 + 1 + 1) S2 (by omega);clear S2;replace Hzl:Hid (([0]:List Int).length≤4):=by show _≤_;decide
       have y0:=(S.lv 0 rfl).all;have y1:=(S.lv 1 rfl).all;have S9:=(((S.set 0 0 (.slice (some ⟨L + 1,0,none⟩) ([0]:List Int).length 1) rfl).set 0 1 (.int .i64 most) rfl).set 0 2 (.slice Aw (ws:List IdV).length cw) rfl).set 0 3 (.slice As (qs:List SQ).length ca) rfl;go_wp2_with fail
       obtain ⟨A1,c1,e1,T1⟩:=S9.frz 3 rfl;cases e1;obtain ⟨A2,c2,e2,T2⟩:=T1.frz 4 rfl;cases e2;have T3:=T2.srvs 4 5 rfl rfl;exact bodyPost_ret (results_cell1 rfl rfl (loadJr (S9.lv 0 rfl))) rfl ⟨⟨[0],most,ws,(qs).map SQ.s⟩,(some ⟨L + 1,0,none⟩),1,Aw,cw,As,ca,(by simp [ruCs]),rul_small (qs) Hqs.out (by have:=Hql.out;omega) Hzl.out Hwl.out Hwt.out,(((T3.del 5).del 1).del 0).mono (by omega)⟩
      ·have l0:=(S.lv 10 rfl).all;have x0:=(S.lv 1 rfl).all;go_upto_region 27 with fail
       clear l0 x0;have hSl:Sl rInt (Mut w.heap.size (JR w.heap.size R Z (.slice Ak zs.length ck) most (.slice Aw ws.length cw) (.slice As qs.length ca) Ak zs ws qs)) w7 (some ⟨L + 1 + 1,0,none⟩) [5]:=(S.slc 8 rfl).mono (fun _ _ h=>mut_left h);replace S:St b (m + 570 + 1 + 1) w w7 (JR w.heap.size R Z (.slice Ak zs.length ck) most (.slice Aw ws.length cw) (.slice As qs.length ca) Ak zs ws qs):=S.left;have S2:=(S.turn 2 rfl (.sl rInt (some ⟨L + 1 + 1,0,none⟩) [5]) rfl hSl).set 1 0 (.slice (some ⟨L + 1 + 1,0,none⟩) 1 1) rfl;clear S hSl;generalize w7.setCell ⟨Z,0,none⟩ (.slice (some ⟨L + 1 + 1,0,none⟩) 1 1)=w8 at *;have S:St b (m + 580) w w8 (JR w.heap.size R Z (.slice (some ⟨L + 1 + 1,0,none⟩) ([5]:List Int).length 1) most (.slice Aw ws.length cw) (.slice As qs.length ca) (some ⟨L + 1 + 1,0,none⟩) [5] ws qs):=St.mono (m:=m + 570 + 1 + 1) S2 (by omega);clear S2;replace Hzl:Hid (([5]:List Int).length≤4):=by show _≤_;decide
       have y0:=(S.lv 0 rfl).all;have y1:=(S.lv 1 rfl).all;have S9:=(((S.set 0 0 (.slice (some ⟨L + 1 + 1,0,none⟩) ([5]:List Int).length 1) rfl).set 0 1 (.int .i64 most) rfl).set 0 2 (.slice Aw (ws:List IdV).length cw) rfl).set 0 3 (.slice As (qs:List SQ).length ca) rfl;go_wp2_with fail
       obtain ⟨A1,c1,e1,T1⟩:=S9.frz 3 rfl;cases e1;obtain ⟨A2,c2,e2,T2⟩:=T1.frz 4 rfl;cases e2;have T3:=T2.srvs 4 5 rfl rfl;exact bodyPost_ret (results_cell1 rfl rfl (loadJr (S9.lv 0 rfl))) rfl ⟨⟨[5],most,ws,(qs).map SQ.s⟩,(some ⟨L + 1 + 1,0,none⟩),1,Aw,cw,As,ca,(by simp [ruCs]),rul_small (qs) Hqs.out (by have:=Hql.out;omega) Hzl.out Hwl.out Hwt.out,(((T3.del 5).del 1).del 0).mono (by omega)⟩
      ·have l0:=(S.lv 10 rfl).all;have x0:=(S.lv 1 rfl).all;go_upto_region 27 with fail
       clear l0 x0;have hSl:Sl rInt (Mut w.heap.size (JR w.heap.size R Z (.slice Ak zs.length ck) most (.slice Aw ws.length cw) (.slice As qs.length ca) Ak zs ws qs)) w7 (some ⟨L + 1 + 1 + 1,0,none⟩) [1,1]:=(S.slc 9 rfl).mono (fun _ _ h=>mut_left h);replace S:St b (m + 570 + 1 + 1) w w7 (JR w.heap.size R Z (.slice Ak zs.length ck) most (.slice Aw ws.length cw) (.slice As qs.length ca) Ak zs ws qs):=S.left;have S2:=(S.turn 2 rfl (.sl rInt (some ⟨L + 1 + 1 + 1,0,none⟩) [1,1]) rfl hSl).set 1 0 (.slice (some ⟨L + 1 + 1 + 1,0,none⟩) 2 2) rfl;clear S hSl;generalize w7.setCell ⟨Z,0,none⟩ (.slice (some ⟨L + 1 + 1 + 1,0,none⟩) 2 2)=w8 at *;have S:St b (m + 580) w w8 (JR w.heap.size R Z (.slice (some ⟨L + 1 + 1 + 1,0,none⟩) ([1,1]:List Int).length 2) most (.slice Aw ws.length cw) (.slice As qs.length ca) (some ⟨L + 1 + 1 + 1,0,none⟩) [1,1] ws qs):=St.mono (m:=m + 570 + 1 + 1) S2 (by omega);clear S2;replace Hzl:Hid (([1,1]:List Int).length≤4):=by show _≤_;decide
       have y0:=(S.lv 0 rfl).all;have y1:=(S.lv 1 rfl).all;have S9:=(((S.set 0 0 (.slice (some ⟨L + 1 + 1 + 1,0,none⟩) ([1,1]:List Int).length 2) rfl).set 0 1 (.int .i64 most) rfl).set 0 2 (.slice Aw (ws:List IdV).length cw) rfl).set 0 3 (.slice As (qs:List SQ).length ca) rfl;go_wp2_with fail
       obtain ⟨A1,c1,e1,T1⟩:=S9.frz 3 rfl;cases e1;obtain ⟨A2,c2,e2,T2⟩:=T1.frz 4 rfl;cases e2;have T3:=T2.srvs 4 5 rfl rfl;exact bodyPost_ret (results_cell1 rfl rfl (loadJr (S9.lv 0 rfl))) rfl ⟨⟨[1,1],most,ws,(qs).map SQ.s⟩,(some ⟨L + 1 + 1 + 1,0,none⟩),2,Aw,cw,As,ca,(by simp [ruCs]),rul_small (qs) Hqs.out (by have:=Hql.out;omega) Hzl.out Hwl.out Hwt.out,(((T3.del 5).del 1).del 0).mono (by omega)⟩
      --@enddev
     ·skip
      --@dev
      go_wp2_with fail
      refine (odd_any b _ _ _ _ S.g.s (by omega) (by omega) (by omega) (by omega)).mono ?_;rintro e w6 ⟨m6,m6_lo,m6_hi,rfl,hk_w6,hs_w6⟩;replace S:=S.step hk_w6 hs_w6;clear hk_w6 hs_w6;have l0:=(S.lv 1 rfl).all;have S2:=S.set 1 1 (.int .i64 m6) rfl;go_upto_region 27 with fail
      clear l0 S;generalize w6.setCell ⟨Z,1,none⟩ (.int .i64 m6)=w8 at *;replace S2:St b (m + 580) w w8 (JR w.heap.size R Z (.slice Ak zs.length ck) m6 (.slice Aw ws.length cw) (.slice As qs.length ca) Ak zs ws qs):=S2.mono (by omega);have S:=S2;clear S2;have y0:=(S.lv 0 rfl).all;have y1:=(S.lv 1 rfl).all;have S9:=(((S.set 0 0 (.slice Ak (zs:List Int).length ck) rfl).set 0 1 (.int .i64 m6) rfl).set 0 2 (.slice Aw (ws:List IdV).length cw) rfl).set 0 3 (.slice As (qs:List SQ).length ca) rfl;go_wp2_with fail
      obtain ⟨A1,c1,e1,T1⟩:=S9.frz 3 rfl;cases e1;obtain ⟨A2,c2,e2,T2⟩:=T1.frz 4 rfl;cases e2;have T3:=T2.srvs 4 5 rfl rfl;exact bodyPost_ret (results_cell1 rfl rfl (loadJr (S9.lv 0 rfl))) rfl ⟨⟨zs,m6,ws,(qs).map SQ.s⟩,Ak,ck,Aw,cw,As,ca,(by simp [ruCs]),rul_small (qs) Hqs.out (by have:=Hql.out;omega) Hzl.out Hwl.out Hwt.out,(((T3.del 5).del 1).del 0).mono (by omega)⟩;--@enddev
     ·have l0:=(S.lv 1 rfl).all;--@dev
      have Hc:=Lib.hid (cloneI_any Aw ws cw w5 ((S.ow 3 rfl).slF flatId) (by have:=Hwl.out;omega));go_wp2_with fail
      refine (Hc.out).mono ?_;rintro e w6 ⟨A2,c2,rfl,M2⟩;have S6:St b (m + 571) w w6 (JR w.heap.size R Z (.slice Ak zs.length ck) most (.slice Aw ws.length cw) (.slice As qs.length ca) Ak zs ws qs++[.own rId w.heap.size 46 (.slice A2 ws.length c2) ws]):=(S.joinM M2).base flatId 6 rfl S.g.size;have S7:St b (m + 571) w w6 [.loc R jzCs 29,.loc Z #[.slice Ak zs.length ck,.int .i64 most,.slice Aw ws.length cw,.slice As qs.length ca] 29,.sl rInt Ak zs,.own rSQ w.heap.size 124 (.slice As qs.length ca) qs,.sdat qs,.own rId w.heap.size 46 (.slice A2 ws.length c2) ws]:=S6.del 3;have S8:St b (m + 571) w w6 [.loc R jzCs 29,.loc Z #[.slice Ak zs.length ck,.int .i64 most,.slice Aw ws.length cw,.slice As qs.length ca] 29,.sl rInt Ak zs,.own rId w.heap.size 46 (.slice A2 ws.length c2) ws,.own rSQ w.heap.size 124 (.slice As qs.length ca) qs,.sdat qs] :=
       S7.perm (List.Perm.cons _ (List.Perm.cons _ (List.Perm.cons _ (List.perm_append_comm (l₁:=[Chunk.own rSQ w.heap.size 124 (.slice As qs.length ca) qs,Chunk.sdat qs]) (l₂:=[_])))))
      clear S S6 S7 M2 Hc l0;go_wp2_with fail
      refine (spoiledId_any b _ _ S8.g.s (by omega) (HP.out.keep S8.g.k hPb) hPb).mono ?_;rintro e w7 ⟨k1,t1,ht1,rfl,hk7,hs7⟩;have S:=S8.step hk7 hs7;have Ht1:=Lib.hid ht1;have hsz:=S.g.size;have hwl2:ws.length≤300:=Hwl.out;have z1:=(S.lv 1 rfl).all;clear S8 hk7 hs7 ht1;go_upto_region 27 with (at_builtin;refine S.app 3 rfl tyIdP rfl _ _ rfl (⟨k1,t1⟩:IdV) 1 rfl rfl rfl (oneIdP ⟨k1,t1⟩) hsz (by omega) (by decide) ?_;intro v' w10 S6;obtain ⟨q2,hq2⟩:∃ q2,ws++[(⟨k1,t1⟩:IdV)]=q2:=⟨_,rfl⟩;rw [hq2] at S6;have Hq2:=Lib.hid hq2;clear hq2;obtain ⟨A6,c6,rfl⟩:=(S6.ow 3 rfl).len;have z2:=(S6.lv 1 rfl).all)
      clear z1 z2 S;have S7:=S6.set 1 2 (.slice A6 q2.length c6) rfl;clear S6;generalize w10.setCell ⟨Z,2,none⟩ (.slice A6 q2.length c6)=w8 at *;have S:St b (m + 590) w w8 (JR w.heap.size R Z (.slice Ak zs.length ck) most (.slice A6 q2.length c6) (.slice As qs.length ca) Ak zs q2 qs):=St.mono (m:=m + 571 + 9) S7 (by omega);clear S7;have Hwl3:Hid (q2.length≤300):=by show _≤_;rw [← Hq2.out];simp;omega
      have Hwt3:Hid (∀ x∈q2,x.t.size≤10000):=fun x hx=>by
       rw [← Hq2.out] at hx;rcases List.mem_append.1 hx with hx | hx
       ·exact Hwt.out x hx
       ·rw [List.mem_singleton.1 hx];exact Ht1.out
      clear Hwl Hwt;have Hwl:=Hwl3;have Hwt:=Hwt3;have y0:=(S.lv 0 rfl).all;have y1:=(S.lv 1 rfl).all;have S9:=(((S.set 0 0 (.slice Ak (zs:List Int).length ck) rfl).set 0 1 (.int .i64 most) rfl).set 0 2 (.slice A6 (q2:List IdV).length c6) rfl).set 0 3 (.slice As (qs:List SQ).length ca) rfl;go_wp2_with fail
      obtain ⟨A1,c1,e1,T1⟩:=S9.frz 3 rfl;cases e1;obtain ⟨A2,c2,e2,T2⟩:=T1.frz 4 rfl;cases e2;have T3:=T2.srvs 4 5 rfl rfl;exact bodyPost_ret (results_cell1 rfl rfl (loadJr (S9.lv 0 rfl))) rfl ⟨⟨zs,most,q2,(qs).map SQ.s⟩,Ak,ck,A6,c6,As,ca,(by simp [ruCs]),rul_small (qs) Hqs.out (by have:=Hql.out;omega) Hzl.out Hwl.out Hwt.out,(((T3.del 5).del 1).del 0).mono (by omega)⟩;--@enddev
     ·go_wp2_with fail
      --@dev
      refine wp_region_mixG 11 (fun wc=>wc.cell? ⟨Z,3,none⟩=some (.slice As qs.length ca)) [.q 0,.q 1,.q 2,.q 5,.e 3,.e 4,.e 6,.q 7,.e 8,.e 9,.q 10,.e 11] (by kernel_rfl) (by kernel_rfl) (fun _ hd=>((S.below (hd.below _)).lv 1 rfl).cell 3 _ rfl) (fun KK hKK wd hd=>?_);replace S:=S.below (hd.below _);clear hd;refine mpG ?_;refine mixG_load (.slice As qs.length ca) rfl rfl rfl rfl (fun _=>rfl) (fun _ h=>h) ?_;refine mpG ?_;refine mixG_l rfl rfl (fun K hK=>?_);go_wp2_with fail
      have hCa:∀ o,(wd.alloc o).cell? ⟨Z,3,none⟩=some (.slice As qs.length ca):=fun o=>((S.alloc o).lv 1 rfl).cell 3 _ rfl;refine ⟨by first | exact hCa _ | exact fun _=>hCa _,?_⟩;clear hCa;refine mixG_l rfl rfl (fun K hK=>?_);go_wp2_with fail
      refine (one_le b _ _ _ (10) S.g.s (by first | rfl | simp) (by first | rfl | simp) (strsLe_of (by decide)) (by simp) (by simp) (by omega)).mono ?_;rintro e w6 ⟨nm,nm_le,rfl,hk_w6,hs_w6⟩;replace S:=S.step hk_w6 hs_w6;clear hk_w6 hs_w6;have hCc:w6.cell? ⟨Z,3,none⟩=some (.slice As qs.length ca):=(S.lv 1 rfl).cell 3 _ rfl;go_wp2_with fail
      refine ⟨by first | exact hCc | exact fun _=>hCc,?_⟩;clear hCc;refine mixG_l rfl rfl (fun K hK=>?_);go_wp2_with fail
      refine (odd_any b _ _ _ _ S.g.s (by omega) (by omega) (by omega) (by omega)).mono ?_;rintro e w7 ⟨how,how_lo,how_hi,rfl,hk_w7,hs_w7⟩;replace S:=S.step hk_w7 hs_w7;clear hk_w7 hs_w7;have hCc:w7.cell? ⟨Z,3,none⟩=some (.slice As qs.length ca):=(S.lv 1 rfl).cell 3 _ rfl;go_wp2_with fail
      refine ⟨by first | exact hCc | exact fun _=>hCc,?_⟩;clear hCc;refine mpG ?_;replace S:=S.addSd 5 rfl (⟨⟨nm,how,[]⟩,none,0⟩:SQ) (Nat.le_refl _) Sl.nil;have hsz:=S.g.size;have hql2:qs.length≤200:=by have:=Hql.out;omega
      have hCa:∀ o,(w7.alloc o).cell? ⟨Z,3,none⟩=some (.slice As qs.length ca):=fun o=>((S.alloc o).lv 1 rfl).cell 3 _ rfl;refine mixG_l rfl rfl (fun K hK=>?_);go_wp2_with fail
      first | refine ⟨hCa _,?_⟩ | refine ⟨fun _=>hCa _,?_⟩ | skip
      clear hCa;refine mixG_l rfl rfl (fun K hK=>?_);refine S.app 4 rfl tySrv rfl _ _ rfl (⟨⟨nm,how,[]⟩,none,0⟩:SQ) 1 rfl rfl rfl (oneSQ (⟨⟨nm,how,[]⟩,none,0⟩:SQ)) hsz (by omega) (by decide) ?_;intro v' w10 S6;obtain ⟨q2,hq2⟩:∃ q2,qs++[(⟨⟨nm,how,[]⟩,none,0⟩:SQ)]=q2:=⟨_,rfl⟩;rw [hq2] at S6;have Hq2:=Lib.hid hq2;clear hq2;obtain ⟨A6,c6,rfl⟩:=(S6.ow 4 rfl).len;have hCb:w10.cell? ⟨Z,3,none⟩=some (.slice As qs.length ca):=(S6.lv 1 rfl).cell 3 _ rfl;have hCf:w10.frozen? ⟨Z,3,none⟩=false:=(S6.lv 1 rfl).free 3;go_wp2_with fail
      first | refine ⟨hCb,?_⟩ | refine ⟨fun _=>hCb,?_⟩ | skip
      refine mpG ?_;refine mixG_l rfl rfl (fun K hK=>?_);go_wp2_with fail
      refine ⟨fun h=>absurd rfl h,?_⟩;refine mixG_nil ?_;simp only [Exit.then];refine hKK _ _ ?_;have S7:=S6.set 1 3 (.slice A6 q2.length c6) rfl;clear S S6 hCb hCf hsz;generalize w10.setCell ⟨Z,3,none⟩ (.slice A6 q2.length c6)=w11 at *;have S:St b (m + 700) w w11 (JR w.heap.size R Z (.slice Ak zs.length ck) most (.slice Aw ws.length cw) (.slice A6 q2.length c6) Ak zs ws q2):=St.mono S7 (by first | omega | (show _≤_;simp;omega));clear S7;have Hql2:Hid (q2.length≤7):=by show _≤_;have:=Hql.out;rw [← Hq2.out];simp;omega
      have Hqs2:Hid (∀ q∈q2,SqSm q):=fun q hq=>by
       rw [← Hq2.out] at hq;rcases List.mem_append.1 hq with hq | hq
       ·exact Hqs.out q hq
       ·rw [List.mem_singleton.1 hq];exact ⟨(by show nm.size≤100;omega),Nat.zero_le _,fun x hx=>by cases hx⟩
      clear Hql Hqs;have Hql:=Hql2;have Hqs:=Hqs2;go_upto_region 27 with fail
      have y0:=(S.lv 0 rfl).all;have y1:=(S.lv 1 rfl).all;have S9:=(((S.set 0 0 (.slice Ak (zs:List Int).length ck) rfl).set 0 1 (.int .i64 most) rfl).set 0 2 (.slice Aw (ws:List IdV).length cw) rfl).set 0 3 (.slice A6 (q2:List SQ).length c6) rfl;go_wp2_with fail
      obtain ⟨A1,c1,e1,T1⟩:=S9.frz 3 rfl;cases e1;obtain ⟨A2,c2,e2,T2⟩:=T1.frz 4 rfl;cases e2;have T3:=T2.srvs 4 5 rfl rfl;exact bodyPost_ret (results_cell1 rfl rfl (loadJr (S9.lv 0 rfl))) rfl ⟨⟨zs,most,ws,(q2).map SQ.s⟩,Ak,ck,Aw,cw,A6,c6,(by simp [ruCs]),rul_small (q2) Hqs.out (by have:=Hql.out;omega) Hzl.out Hwl.out Hwt.out,(((T3.del 5).del 1).del 0).mono (by omega)⟩;--@enddev
     ·go_wp2_with fail
      have hZb:Z≠b:=by have:=S.ge 1 rfl;have:=S.b0;omega
      refine wp_region_mixG 15 (fun wc=>wc.cell? ⟨Z,3,none⟩=some (.slice As qs.length ca)) [.q 0,.q 1,.q 2,.q 4,.q 7,.f [3,5,6,8,9,10,11],.e 12,.e 13,.q 14,.e 15] (by kernel_rfl) (by kernel_rfl) (fun _ hd=>((S.below (hd.below _)).lv 1 rfl).cell 3 _ rfl) (fun KK hKK wd hd=>?_);replace S:=S.below (hd.below _);have hbd:b < wd.heap.size:=Nat.lt_of_lt_of_le S.b0 S.g.size;clear hd;refine mpG ?_;refine mixG_load (.slice As qs.length ca) rfl rfl rfl rfl (fun _=>rfl) (fun _ h=>h) ?_;refine mpG ?_;refine free_plan [(3,114,[]),(5,116,[]),(6,117,[(3,114),(5,116)]),(8,119,[]),(9,120,[(6,117),(8,119)]),(10,121,[(6,117),(9,120)]),(11,122,[(3,114),(10,121)])] rfl (by kernel_rfl) (fun c w'=>G b (m + 580 + c) wd w') (SK b) (j4Fact wd.heap.size) ((G.start S.g.s).mono (by omega)) (fun c w' h=>((S.lv 1 rfl).keep h.k hZb).cell 3 _ rfl) (fun x _ v w w' k h=>j4Fact_keep hbd x.1 v w w' k h) (by rfl) ?_ ?_
      ·refine all_cons ?_ (all_cons ?_ (all_cons ?_ (all_cons ?_ (all_cons ?_ (all_cons ?_ (all_cons ?_ all_nil))))));all_goals (intro o ho c ν w2 hc hinv hp;cases ho;simp only [fillD,List.foldl_cons,List.foldl_nil];simp only [List.length_cons,List.length_nil] at hc)
       ·go_wp2_with fail
        refine (range_any b _ _ _ _ hinv.s (by omega) (by omega) (by omega) (by omega)).mono ?_;rintro e w3 ⟨r,r_lo,r_hi,rfl,hk_w3,hs_w3⟩;go_wp2_with fail
        refine ⟨_,rfl,hk_w3,(hinv.step hk_w3 hs_w3).mono (by omega),?_⟩;exact ⟨r,rfl,by omega,by omega⟩
       ·go_wp2_with fail
        first | exact ⟨_,rfl,(SK.refl _ _).alloc _,(hinv.alloc _).mono (by omega),w2.heap.size,rfl,LV.new _ _ _ _ rfl,hinv.size⟩ | exact ⟨(SK.refl _ _).alloc _,(hinv.alloc _).mono (by omega),w2.heap.size,rfl,LV.new _ _ _ _ rfl,hinv.size⟩
       ·have h7:IsLitS wd.heap.size [⟨#[97]⟩,⟨#[66]⟩] (ν 5) w2:=hp (5,116) (by simp);go_wp2_with fail
        refine (h7.one hinv.s hbd (by simp) (by simp) (by omega)).mono ?_;rintro e w3 ⟨r,hr,rfl,hk_w3,hs_w3⟩;go_wp2_with fail
        refine ⟨_,rfl,hk_w3,(hinv.step hk_w3 hs_w3).mono (by omega),?_⟩;refine ⟨r,rfl,?_⟩;simp only [List.mem_cons,List.not_mem_nil,or_false] at hr;rcases hr with rfl | rfl <;> decide
       ·go_wp2_with fail
        first | exact ⟨_,rfl,(SK.refl _ _).alloc _,(hinv.alloc _).mono (by omega),w2.heap.size,rfl,LV.new _ _ _ _ rfl,hinv.size⟩ | exact ⟨(SK.refl _ _).alloc _,(hinv.alloc _).mono (by omega),w2.heap.size,rfl,LV.new _ _ _ _ rfl,hinv.size⟩
       ·have h7:IsLitS wd.heap.size [⟨#[97]⟩,⟨#[98]⟩] (ν 8) w2:=hp (8,119) (by simp);go_wp2_with fail
        refine (h7.one hinv.s hbd (by simp) (by simp) (by omega)).mono ?_;rintro e w3 ⟨r,hr,rfl,hk_w3,hs_w3⟩;go_wp2_with fail
        refine ⟨_,rfl,hk_w3,(hinv.step hk_w3 hs_w3).mono (by omega),?_⟩;refine ⟨r,rfl,?_⟩;simp only [List.mem_cons,List.not_mem_nil,or_false] at hr;rcases hr with rfl | rfl <;> decide
       ·obtain ⟨s1,e1,h1⟩:=(hp (6,117) (by simp):IsS 10 (ν 6));obtain ⟨s2,e2,h2⟩:=(hp (9,120) (by simp):IsS 10 (ν 9));simp only [e1,e2];go_wp2_with fail
        first | exact ⟨_,rfl,(SK.refl _ _).alloc _,(hinv.alloc _).mono (by omega),s1,s2,h1,h2,w2.heap.size,rfl,LV.new _ _ _ _ rfl,hinv.size⟩ | exact ⟨(SK.refl _ _).alloc _,(hinv.alloc _).mono (by omega),s1,s2,h1,h2,w2.heap.size,rfl,LV.new _ _ _ _ rfl,hinv.size⟩
       ·obtain ⟨how,e1,_⟩:=(hp (3,114) (by simp):IsI 1 7 (ν 3));have h2:IsTwoS wd.heap.size (ν 10) w2:=hp (10,121) (by simp);obtain ⟨s1,s2,hs1,hs2,blk,e2,lv,hB⟩:=h2;simp only [e1,e2,List.length_cons,List.length_nil];go_wp2_with fail
        first | exact ⟨_,rfl,SK.refl _ _,hinv.mono (by omega),how,_,rfl,s1,s2,hs1,hs2,blk,rfl,lv,hB⟩ | exact ⟨SK.refl _ _,hinv.mono (by omega),how,_,rfl,s1,s2,hs1,hs2,blk,rfl,lv,hB⟩
      ·intro ν w2 hinv hf;obtain ⟨how,u,e11,s1,s2,hs1,hs2,hl⟩:=(hf (11,122,[(3,114),(10,121)]) (by simp):IsZoo wd.heap.size (ν 11) w2);have hwd:=S.g.size;have hst:IsStrs wd.heap.size u [s1,s2] w2:=.inr hl;have S2:=S.call hinv (.own rStr w.heap.size 9 u [s1,s2]) (hst.own hwd (by simp)) (fun k e=>hst.ge k e);obtain ⟨A2,c2,e2,S3⟩:=S2.frz 6 rfl;subst e2;have hc2:([s1,s2]:List ByteArray).length≤c2:=by
        obtain ⟨blk,e,_,_⟩:=hl;simp only [Value.slice.injEq] at e;omega
       have S4:=S3.addSd 5 rfl (⟨⟨⟨#[122,111,111]⟩,how,[s1,s2]⟩,A2,c2⟩:SQ) hc2 (S3.slc 6 rfl);replace S:St b (m + 590) w w2 [.loc R jzCs 29,.loc Z #[.slice Ak zs.length ck,.int .i64 most,.slice Aw ws.length cw,.slice As qs.length ca] 29,.sl rInt Ak zs,.own rId w.heap.size 46 (.slice Aw ws.length cw) ws,.own rSQ w.heap.size 124 (.slice As qs.length ca) qs,.sdat (qs++[⟨⟨⟨#[122,111,111]⟩,how,[s1,s2]⟩,A2,c2⟩])]:=St.mono (m:=m + 580 + 7) (S4.del 6) (by omega);simp only [fillD,List.map_cons,List.map_nil,List.foldl_cons,List.foldl_nil,e11];clear hf hinv e11 hl hst S2 S3 S4;generalize ν 3=q3;generalize ν 5=q5;generalize ν 6=q6;generalize ν 8=q8;generalize ν 9=q9;generalize ν 10=q10;have hsz:=S.g.size;have hql2:qs.length≤200:=by have:=Hql.out;omega
       have hCa:∀ o,(w2.alloc o).cell? ⟨Z,3,none⟩=some (.slice As qs.length ca):=fun o=>((S.alloc o).lv 1 rfl).cell 3 _ rfl;refine mixG_l rfl rfl (fun K hK=>?_);go_wp2_with fail
       first | refine ⟨hCa _,?_⟩ | refine ⟨fun _=>hCa _,?_⟩ | skip
       clear hCa;refine mixG_l rfl rfl (fun K hK=>?_);refine S.app 4 rfl tySrv rfl _ _ rfl (⟨⟨⟨#[122,111,111]⟩,how,[s1,s2]⟩,A2,c2⟩:SQ) 1 rfl rfl rfl (oneSQ (⟨⟨⟨#[122,111,111]⟩,how,[s1,s2]⟩,A2,c2⟩:SQ)) hsz (by omega) (by decide) ?_;intro v' w10 S6;obtain ⟨q2,hq2⟩:∃ q2,qs++[(⟨⟨⟨#[122,111,111]⟩,how,[s1,s2]⟩,A2,c2⟩:SQ)]=q2:=⟨_,rfl⟩;rw [hq2] at S6;have Hq2:=Lib.hid hq2;clear hq2;obtain ⟨A6,c6,rfl⟩:=(S6.ow 4 rfl).len;have hCb:w10.cell? ⟨Z,3,none⟩=some (.slice As qs.length ca):=(S6.lv 1 rfl).cell 3 _ rfl;have hCf:w10.frozen? ⟨Z,3,none⟩=false:=(S6.lv 1 rfl).free 3;go_wp2_with fail
       first | refine ⟨hCb,?_⟩ | refine ⟨fun _=>hCb,?_⟩ | skip
       refine mpG ?_;refine mixG_l rfl rfl (fun K hK=>?_);go_wp2_with fail
       refine ⟨fun h=>absurd rfl h,?_⟩;refine mixG_nil ?_;simp only [Exit.then];refine hKK _ _ ?_;have S7:=S6.set 1 3 (.slice A6 q2.length c6) rfl;clear S S6 hCb hCf hsz;generalize w10.setCell ⟨Z,3,none⟩ (.slice A6 q2.length c6)=w11 at *;have S:St b (m + 700) w w11 (JR w.heap.size R Z (.slice Ak zs.length ck) most (.slice Aw ws.length cw) (.slice A6 q2.length c6) Ak zs ws q2):=St.mono S7 (by first | omega | (show _≤_;simp;omega));clear S7;have Hql2:Hid (q2.length≤7):=by show _≤_;have:=Hql.out;rw [← Hq2.out];simp;omega
       have Hqs2:Hid (∀ q∈q2,SqSm q):=fun q hq=>by
        rw [← Hq2.out] at hq;rcases List.mem_append.1 hq with hq | hq
        ·exact Hqs.out q hq
        ·rw [List.mem_singleton.1 hq];exact ⟨(by show (⟨#[122,111,111]⟩:ByteArray).size≤100;decide),(by show ([s1,s2]:List ByteArray).length≤3;simp),(fun x hx=>by simp only [List.mem_cons,List.not_mem_nil,or_false] at hx;rcases hx with rfl | rfl <;> omega)⟩
       clear Hql Hqs;have Hql:=Hql2;have Hqs:=Hqs2;go_upto_region 27 with fail
       have y0:=(S.lv 0 rfl).all;have y1:=(S.lv 1 rfl).all;have S9:=(((S.set 0 0 (.slice Ak (zs:List Int).length ck) rfl).set 0 1 (.int .i64 most) rfl).set 0 2 (.slice Aw (ws:List IdV).length cw) rfl).set 0 3 (.slice A6 (q2:List SQ).length c6) rfl;go_wp2_with fail
       obtain ⟨A1,c1,e1,T1⟩:=S9.frz 3 rfl;cases e1;obtain ⟨A2,c2,e2,T2⟩:=T1.frz 4 rfl;cases e2;have T3:=T2.srvs 4 5 rfl rfl;exact bodyPost_ret (results_cell1 rfl rfl (loadJr (S9.lv 0 rfl))) rfl ⟨⟨zs,most,ws,(q2).map SQ.s⟩,Ak,ck,Aw,cw,A6,c6,(by simp [ruCs]),rul_small (q2) Hqs.out (by have:=Hql.out;omega) Hzl.out Hwl.out Hwt.out,(((T3.del 5).del 1).del 0).mono (by omega)⟩
     ·go_wp2_with fail
      --@dev
      go_loopw [59] (fun i wr=>∃ (j:Nat) (Aw:Option Addr) (cw:Nat) (ws:List IdV),j≤201∧i=.int .i64 j∧Hid (ws.length≤2 + j)∧Hid (∀ x∈ws,x.t.size≤10000)∧St b (m + 580) w wr (JR w.heap.size R Z (.slice Ak zs.length ck) most (.slice Aw ws.length cw) (.slice As qs.length ca) Ak zs ws qs)) (fun i _=>201 - (intOf i).toNat)
      case atStart=>exact ⟨0,Aw,cw,ws,Nat.zero_le _,rfl,(by show _≤_;omega),Hwt,S.mono (by omega)⟩
      case round =>
       clear S Hwt Hwl hwl;obtain ⟨j,Aw,cw,ws,hj,rfl,Hwl0,Hwt,S⟩:=hrel;by_cases hj2:j < 201
       ·obtain ⟨pk,pt,hpt,p0,p1⟩:=(HP.out.keep S.g.k hPb) 0 (by omega);have Hpt:=Lib.hid hpt;have hsz:=S.g.size;have hwl2:ws.length≤300:=by have:=Hwl0.out;omega
        have z1:=(S.lv 1 rfl).all;clear hpt;go_wp2_with (at_builtin;refine S.app 3 rfl tyIdP rfl _ _ rfl (⟨pk,pt⟩:IdV) 1 rfl rfl rfl (oneIdP ⟨pk,pt⟩) hsz (by omega) (by decide) ?_;intro v' w10 S6;obtain ⟨q2,hq2⟩:∃ q2,ws++[(⟨pk,pt⟩:IdV)]=q2:=⟨_,rfl⟩;rw [hq2] at S6;have Hq2:=Lib.hid hq2;clear hq2;obtain ⟨A6,c6,rfl⟩:=(S6.ow 3 rfl).len;have z2:=(S6.lv 1 rfl).all)
        go_roundw
        case rel =>
         refine ⟨j + 1,A6,c6,q2,by omega,by go_num,?_,?_,S6.set 1 2 (.slice A6 q2.length c6) rfl⟩
         ·show _≤_;have:=Hwl0.out
          rw [← Hq2.out];simp;omega
         ·intro x hx;rw [← Hq2.out] at hx;rcases List.mem_append.1 hx with hx | hx
          ·exact Hwt.out x hx
          ·rw [List.mem_singleton.1 hx];show pt.size≤10000;have:=Hpt.out
           omega
        case measure=>simp [intOf];omega
       ·have Hwl:Hid (ws.length≤300):=by show _≤_;have:=Hwl0.out;omega
        go_upto_region 27 with fail
        have y0:=(S.lv 0 rfl).all;have y1:=(S.lv 1 rfl).all;have S9:=(((S.set 0 0 (.slice Ak (zs:List Int).length ck) rfl).set 0 1 (.int .i64 most) rfl).set 0 2 (.slice Aw (ws:List IdV).length cw) rfl).set 0 3 (.slice As (qs:List SQ).length ca) rfl;go_wp2_with fail
        obtain ⟨A1,c1,e1,T1⟩:=S9.frz 3 rfl;cases e1;obtain ⟨A2,c2,e2,T2⟩:=T1.frz 4 rfl;cases e2;have T3:=T2.srvs 4 5 rfl rfl;exact bodyPost_ret (results_cell1 rfl rfl (loadJr (S9.lv 0 rfl))) rfl ⟨⟨zs,most,ws,(qs).map SQ.s⟩,Ak,ck,Aw,cw,As,ca,(by simp [ruCs]),rul_small (qs) Hqs.out (by have:=Hql.out;omega) Hzl.out Hwl.out Hwt.out,(((T3.del 5).del 1).del 0).mono (by omega)⟩
      --@enddev
end
end Go.Proofs.YtmkkppknaikjjaaGreatDoor
