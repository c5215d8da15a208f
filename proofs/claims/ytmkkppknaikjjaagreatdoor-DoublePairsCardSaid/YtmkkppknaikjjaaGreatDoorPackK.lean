/- Several texts in one: MakeI, Nest, CloneI, GenRul. -/
import Derived.Test.YtmkkppknaikjjaaGreatDoorPackJ
/- Slices of numbers that a call makes and writes. -/
set_option maxHeartbeats 8000000
set_option maxRecDepth 100000
open Go.Lib renaming hid→Z9
open List renaming getElem?_eq_getElem→Z8, mem_of_getElem?→Z7, length_map→ZW, length_cons→ZV, getElem?_map→ZT, length_nil→ZO, map_cons→Zt, foldl_cons→Zk, mem_append_left→Za, mem_cons→YU, pairwise_singleton→YS, not_mem_nil→YI
open Nat renaming le_refl→Z5, zero_le→ZN, le_trans→ZE
open Int renaming eq_ofNat_of_zero_le→Zi
open Array renaming replicate→Y3
namespace Go.Proofs.YtmkkppknaikjjaaGreatDoor
section
open Go Go.RowKit
theorem xA:kF 22 3 ay.size 8 (.int .i64 0):=⟨Tryz.underlying22,by kernel_rfl,rfl,by decide⟩
theorem ahT (n:Nat):madeCells (Value.int .i64 0).cells ((n:Int).toNat * ay.size)=(List.replicate n (Value.int .i64 0)).toArray:=by
 rw [Int.toNat_natCast,show n * ay.size=n by simp [ay,Rep.flat]];apply Array.ext
 ·simp [madeCells]
 ·intro i h1 h2;simp [madeCells,Value.cells,Nat.mod_one]
theorem aa3 (n:Nat)(hn:n≤1000000)(w:World):(Instr.makeSlice 22 (.int .i64 n) (.int .i64 n)).run Tryz.prog w=.ok (.slice (some ⟨w.heap.size,0,none⟩) n n) (w.alloc (.cells (Y3 n (Value.int .i64 0)) 3)):=by
 obtain ⟨i,hi,hz0,hz1,hz2⟩:=info_parts xA.info;have h:=run_makeSlice (P:=Tryz.prog) w 22 3 i _ xA.under hi hz0 .i64 .i64 n n (by omega) (by omega) (by rw [hz1,Int.toNat_natCast,show n * ay.size=n by simp [ay,Rep.flat]];omega) (by rw [hz2];omega) (by omega);rw [hz1,ahT n,Int.toNat_natCast,List.toArray_replicate] at h;exact h
theorem Mem.FZ {w0 w:World}{cs:List Chunk}(S:Mem w0 w cs)(i:Nat){B E g n cap:Nat}{xs:List Int}(hi:cs[i]? =some (.own ay B E (.slice (some ⟨g,0,none⟩) n cap) xs))(hn:n=xs.length)(k:Nat)(x x':Int)(hx:xs[k]? =some x):Mem w0 (w.setCell ⟨g,k,none⟩ (.int .i64 x')) (cs.set i (.own ay B E (.slice (some ⟨g,0,none⟩) n cap) (xs.set k x'))):=by
 have:=S.put lY i hi hn k x x' hx 0 (by decide) (.int .i64 x') rfl
 rw [show k * ay.size + 0=k by simp [ay,Rep.flat]] at this;exact this
theorem Own.sO {M:Nat→Prop}{B E g n cap:Nat}{w:World}{xs:List Int}(h:Own ay M B E w (.slice (some ⟨g,0,none⟩) n cap) xs)(hn:n=xs.length)(k:Nat)(x:Int)(hk:xs[k]? =some x):w.cell? ⟨g,k,none⟩=some (.int .i64 x)∧w.frozen? ⟨g,k,none⟩=false:=by
 have:=h.cellP lY hn k x hk 0 _ rfl
 rw [show k * ay.size + 0=k by simp [ay,Rep.flat]] at this;exact this
end
section
open Go.RowKit
def Ko (T:TypeId)(B n:Nat)(P:Value→World→Prop)(v:Value)(w:World):Prop:=∃ (blk:Nat) (vs:List Value),vs.length=n∧v=.slice (some ⟨blk,0,none⟩) n n∧LV w blk vs.toArray T∧B≤blk∧∀ u∈vs,P u w
def Kq (T:TypeId)(B:Nat)(P:Value→World→Prop)(v:Value)(w:World):Prop:=∃ (blk k:Nat) (vs:List Value),k < vs.length∧v=.pointer (some ⟨blk,k,none⟩)∧LV w blk vs.toArray T∧B≤blk∧∀ u∈vs,P u w
def PI (B:Nat)(u:Value)(w:World):Prop:=∃ zs:List Int,zs.length≤4∧Bh B u zs w
theorem PI.keep {b B:Nat}{u:Value}{w w':World}(h:PI B u w)(k:SK b w w')(hb:b < B):PI B u w':=by obtain ⟨zs,h1,h2⟩:=h;exact ⟨zs,h1,h2.keep k hb⟩
theorem PI.form {B:Nat}{u:Value}{w:World}(h:PI B u w):∃ A n c,u=.slice A n c:=by
 obtain ⟨zs,_,⟨_,rfl⟩ | ⟨blk,rfl,_⟩⟩:=h
 ·exact ⟨_,_,_,rfl⟩
 ·exact ⟨_,_,_,rfl⟩
theorem Ko.keep {T:TypeId}{b B n:Nat}{P:Value→World→Prop}{v:Value}{w w':World}(hP:∀ u,P u w→P u w')(h:Ko T B n P v w)(k:SK b w w')(hb:b < B):Ko T B n P v w':=by
 obtain ⟨blk,vs,h1,h2,h3,h4,h5⟩:=h;exact ⟨blk,vs,h1,h2,h3.keep k (by omega),h4,fun u hu=>hP u (h5 u hu)⟩
theorem Kq.keep {T:TypeId}{b B:Nat}{P:Value→World→Prop}{v:Value}{w w':World}(hP:∀ u,P u w→P u w')(h:Kq T B P v w)(k:SK b w w')(hb:b < B):Kq T B P v w':=by
 obtain ⟨blk,i,vs,h1,h2,h3,h4,h5⟩:=h;exact ⟨blk,i,vs,h1,h2,h3.keep k (by omega),h4,fun u hu=>hP u (h5 u hu)⟩
end
section
open Go Go.RowKit
theorem ahU (A:Option Addr)(l:List ah)(c:Nat)(w:World)(hL:Sl aO (fun _=>False) w A l)(hl:l.length≤1000) :
  Calls Tryz.prog 69 #[.slice A l.length c] w fun e w'=>∃ A' c',e=.returned (.slice A' l.length c')∧Mem w w' [.own aO w.heap.size 46 (.slice A' l.length c') l]:=by
 have he:∀ (a:Option Addr) (n c:Nat) (w:World),(binOp .eql 26 (.slice a n c) (.slice none 0 0)).run Tryz.prog w=.ok (.bool a.isNone) w:=fun a n c w=>Lib.run_eql_slice_nil w _ _ a n c 0 0 Bg.under;cases A with
 | none =>
  obtain rfl:=Sl.aaB hL;have S:Mem w w [.own aO w.heap.size 46 (.slice none 0 0) []]:=(Mem.start w).nil aO w.heap.size 46;go_enter Tryz.func69,Tryz.ntmps69
  go_wp2_with fail
  go_ret;exact ⟨none,0,rfl,S⟩
 | some ad =>
  have S:=(Mem.start w).newAt #[] 46 w.heap.size rfl;have S1:Mem w (w.alloc (.cells #[] 46)) [.own aO w.heap.size 46 (.slice (some ⟨w.heap.size,0,none⟩) 0 0) []]:=S.room (r:=aO) 0 rfl rfl (by decide) rfl;have Hc:=Z9 (Sl.Jc jg (fun _=>rfl) (hL.aK S1.b));have hsz:=S1.b.size;have HS:=Z9 S1;have Hl:=Z9 hl;clear S S1 hL hl;go_enter Tryz.func69,Tryz.ntmps69
  go_wp2_with (at_builtin;refine HS.out.nJ jg 0 rfl Bg rfl _ _ rfl l l.length c rfl rfl ad rfl Hc.out (fun y _=>Bf y) (fun _=>rfl) hsz (by simp only [ZO];have:=Hl.out;omega) (by decide) ?_;intro v5 w5 S5)
  obtain ⟨A5,c5,e5⟩:=(S5.ow 0 rfl).len;subst e5;go_ret;exact ⟨A5,c5,rfl,S5⟩
end
section
open Go Go.RowKit
structure SQ where
 s:Srv
 A:Option Addr
 c:Nat
def SQ.cells (q:SQ):List Value:=[.string q.s.name,.int .i64 q.s.how,.slice q.A q.s.srcs.length q.c]
def qX:Rep SQ:=.flat 3 SQ.cells (fun _=>rfl)
theorem Ee:kF 27 124 qX.size 48 (.agg #[.string ⟨#[]⟩,.int .i64 0,.slice none 0 0]):=⟨Tryz.underlying27,by kernel_rfl,rfl,by decide⟩
theorem Ef (q:SQ):∀ u∈q.cells,u.oneCell'=true:=fun u hu=>by
 simp only [SQ.cells,YU,YI,or_false] at hu;rcases hu with rfl | rfl | rfl <;> rfl
def TD (M:Nat→Prop)(w:World)(qs:List SQ):Prop:=∀ q∈qs,q.s.srcs.length≤q.c∧Sl fB M w q.A q.s.srcs
def Chunk.pU (qs:List SQ):Chunk :=
 ⟨none,fun M w=>TD M w qs,fun k hd _ h q hq=>⟨(h q hq).1,(h q hq).2.keep (k.mono hd)⟩,fun hm h q hq=>⟨(h q hq).1,(h q hq).2.mono (fun k hk e=>(hm k hk e).resolve_right (by simp))⟩,fun _ _ e=>by cases e⟩
theorem St.sd {b m:Nat}{w0 w:World}{cs:List Chunk}(S:St b m w0 w cs)(i:Nat){qs:List SQ}(hi:cs[i]? =some (.pU qs)):TD (bT w0.heap.size cs) w qs:=S.ok _ (Z7 hi)
theorem St.Eh {b m:Nat}{w0 w:World}{cs:List Chunk}(S:St b m w0 w cs)(i:Nat){qs:List SQ}(hi:cs[i]? =some (.pU qs))(x:SQ)(hc:x.s.srcs.length≤x.c)(hx:Sl fB (bT w0.heap.size cs) w x.A x.s.srcs):St b m w0 w (cs.set i (.pU (qs++[x]))):=by
 refine S.turn i hi (.pU (qs++[x])) rfl (fun q hq=>?_);rcases List.mem_append.1 hq with hq | hq
 ·exact S.sd i hi q hq
 ·rw [List.mem_singleton.1 hq];exact ⟨hc,hx⟩
theorem ahV {N:Nat→Prop}{w:World}{A:Option Addr}{qs:List SQ}(h:Sl qX N w A qs)(hf:TD N w qs):Sl iQ N w A (qs.map SQ.s):=fun i x hx=>by
 rw [ZT] at hx;cases hq:qs[i]? with
 | none=>rw [hq] at hx;cases hx
 | some y =>
  rw [hq] at hx;obtain rfl:y.s=x:=by simpa using hx
  obtain ⟨blk,off,l,e1,h1,h2,h3,h4⟩:=h i y hq;obtain rfl:l=SQ.cells y:=h3;have hy:=hf y (Z7 hq);exact ⟨blk,off,_,e1,h1,h2,afR (c:=y.c) hy.1 hy.2,h4⟩
theorem St.vP {b m:Nat}{w0 w:World}{cs:List Chunk}(S:St b m w0 w cs)(i j:Nat){A:Option Addr}{qs:List SQ}(hi:cs[i]? =some (.sl qX A qs))(hj:cs[j]? =some (.pU qs)):St b m w0 w (cs.set i (.sl iQ A (qs.map SQ.s))) :=
 S.turn i hi (.sl iQ A (qs.map SQ.s)) rfl (ahV (S.slc i hi) (S.sd j hj))
structure yR (q:SQ):Prop where
 nm:q.s.name.size≤100
 sl:q.s.srcs.length≤3
 st:∀ x∈q.s.srcs,x.size≤100
structure F5 (r:aP):Prop where
 kl:r.kinds.length≤4
 wl:r.weak.length≤300
 wt:∀ x∈r.weak,x.t.size≤10000
 sl:r.aX.length≤10
 ss:∀ s∈r.aX,s.name.size≤100∧s.srcs.length≤3∧∀ x∈s.srcs,x.size≤100
theorem F5.ok {r:aP}(h:F5 r):zY r:=⟨ZE h.kl (by decide),ZE h.wl (by decide),fun x hx=>ZE (h.wt x hx) (by decide),ZE h.sl (by decide),fun s hs=>ZE (h.ss s hs).1 (by decide),fun s hs=>ZE (h.ss s hs).2.1 (by decide),fun s hs x hx=>ZE ((h.ss s hs).2.2 x hx) (by decide)⟩
theorem vS {zs:List Int}{most:Int}{ws:List ah}(qs:List SQ)(h1:∀ q∈qs,yR q)(h2:qs.length≤10)(h3:zs.length≤4)(h4:ws.length≤300)(h5:∀ x∈ws,x.t.size≤10000):F5 ⟨zs,most,ws,qs.map SQ.s⟩ :=
 ⟨h3,h4,h5,by show (qs.map SQ.s).length≤10;rw [ZW];exact h2,fun s hs=>by
  obtain ⟨q,hq,rfl⟩:=List.mem_map.1 hs;exact ⟨(h1 q hq).nm,(h1 q hq).sl,(h1 q hq).st⟩⟩
def ahW (b m:Nat)(w:World)(e:Ending)(w':World):Prop:=∃ (r:aP) (K:Option Addr) (ck:Nat) (W:Option Addr) (cw:Nat) (S:Option Addr) (cs:Nat),
 e=.returned (.agg (aN r K ck W cw S cs))∧F5 r∧St b m w w' [.sl ay K r.kinds,.sl aO W r.weak,.sl iQ S r.aX]
abbrev fE:Array Value:=#[.slice none 0 0,.int .i64 0,.slice none 0 0,.slice none 0 0]
theorem oK {w:World}{X:Nat}{a b c d:Value}(h:LV w X #[a,b,c,d] 29):(loadVar 29 ⟨X,0,none⟩).run Tryz.prog w=.ok (.agg #[a,b,c,d]) w:=by
 have c0:=h.all;go_simp
def F6 (b B:Nat)(v:Value)(w:World):Prop:=∃ xs:List ah,Own aO (Off b) B 46 w v xs∧xs.length≤2∧∀ x∈xs,x.t.size≤10000
def aa4 (b B:Nat)(v:Value)(w:World):Prop:=∃ (vk vw:Value) (most:Int),v=.agg #[vk,.int .i64 most,vw,.slice none 0 0]∧PI B vk w∧F6 b B vw w
def Ol (b B:Nat)(i:Nat)(v:Value)(w:World):Prop :=
 match i with
 | 0=>iw B [1,2] v w
 | 1=>iw B [1,2,3,4] v w
 | 2=>iw B [1] v w
 | 3=>iw B [2,3] v w
 | 4=>iw B [4] v w
 | 5=>Ko 22 B 5 (PI B) v w
 | 7=>qU 0 4 v
 | 8=>Kq 22 B (PI B) v w
 | 9=>PI B v w
 | 11=>iw B [2,3,4,2000] v w
 | 12=>qU 2 2000 v
 | 15=>iw B [0,0,0,1,2] v w
 | 16=>qU 0 2 v
 | 17=>F6 b B v w
 | 18=>aa4 b B v w
 | 19=>AL B fE 29 v w
 | _=>True
theorem F6.keep {b B:Nat}{v:Value}{w w':World}(h:F6 b B v w)(k:SK b w w')(hb:b < B):F6 b B v w':=by
 obtain ⟨xs,h1,h2,h3⟩:=h;exact ⟨xs,h1.stepG k hb,h2,h3⟩
theorem ahX {b B:Nat}(hb:b < B)(i:Nat)(v:Value)(w w':World)(k:SK b w w')(h:Ol b B i v w):Ol b B i v w':=by
 unfold Ol at *;split at h
 ·exact h.keep k hb
 ·exact h.keep k hb
 ·exact h.keep k hb
 ·exact h.keep k hb
 ·exact h.keep k hb
 ·exact h.keep (fun u hu=>hu.keep k hb) k hb
 ·exact h
 ·exact h.keep (fun u hu=>hu.keep k hb) k hb
 ·exact h.keep k hb
 ·exact h.keep k hb
 ·exact h
 ·exact h.keep k hb
 ·exact h
 ·exact h.keep k hb
 ·obtain ⟨vk,vw,most,e,h1,h2⟩:=h;exact ⟨vk,vw,most,e,h1.keep k hb,h2.keep k hb⟩
 ·exact h.keep k hb
 ·exact h
theorem yS {B:Nat}{cs ds:List Chunk}{k:Nat}(h:bT B cs k):bT B (cs++ds) k:=h.imp id (fun ⟨c,hc,e⟩=>⟨c,Za _ hc,e⟩)
theorem St.left {b m:Nat}{w0 w:World}{cs ds:List Chunk}(S:St b m w0 w (cs++ds)):St b m w0 w cs :=
 ⟨S.g,S.b0,fun c hc=>c.mono (fun _ _ e=>.inl (yS e)) (S.ok c (Za _ hc)),fun c hc=>S.new c (Za _ hc),(List.pairwise_append.1 S.sep).1⟩
theorem St.Bj {b m:Nat}{w0 w:World}{cs ds:List Chunk}(S:St b m w0 w (cs++ds))(c:Chunk)(hc:c.blk=none)(hok:c.ok (bT w0.heap.size cs) w):St b m w0 w (cs++[c]):=by
 have hm:∀ k,bT w0.heap.size (cs++[c]) k→bT w0.heap.size cs k:=fun k e=>by
  rcases e with e | ⟨q,hq,e⟩
  ·exact .inl e
  ·rcases List.mem_append.1 hq with hq | hq
   ·exact .inr ⟨q,hq,e⟩
   ·rw [List.mem_singleton.1 hq,hc] at e;cases e
 refine ⟨S.g,S.b0,fun d hd=>?_,fun d hd k e=>?_,?_⟩
 ·rcases List.mem_append.1 hd with hd | hd
  ·exact d.mono (fun k _ e=>.inl (yS (hm k e))) (S.ok d (Za _ hd))
  ·rw [List.mem_singleton.1 hd];exact c.mono (fun k _ e=>.inl (hm k e)) hok
 ·rcases List.mem_append.1 hd with hd | hd
  ·exact S.new d (Za _ hd) k e
  ·rw [List.mem_singleton.1 hd,hc] at e;cases e
 ·refine List.pairwise_append.2 ⟨(List.pairwise_append.1 S.sep).1,YS _ _,fun x _ y hy k _ e2=>?_⟩;rw [List.mem_singleton.1 hy,hc] at e2;cases e2
theorem St.ahY {b m:Nat}{w0 w w':World}{cs ds:List Chunk}(S:St b m w0 w cs)(M:Mem w w' ds):St b m w0 w' (cs++ds) :=
 S.Jp ((G.start S.g.s).below M.b) ds (fun d hd=>M.ok d hd) (fun d hd=>M.new d hd) M.sep
theorem St.base {α:Type}{r:Rep α}{f:α→List Value}(hf:r.Flat f){b m:Nat}{w0 w:World}{cs:List Chunk}(S:St b m w0 w cs)(i:Nat){B B' E:Nat}{v:Value}{xs:List α}(hi:cs[i]? =some (.own r B E v xs))(hB:B'≤B):St b m w0 w (cs.set i (.own r B' E v xs)) :=
 S.upd i hi (.own r B' E v xs) ⟨Z5 _,fun _ _ _=>rfl⟩ S.g (fun _ e=>.inl e) (((S.ow i hi).FP hf).base hB)
def F7 (B:Nat)(v:Value)(w:World):Prop:=∃ s1 s2:ByteArray,s1.size≤10∧s2.size≤10∧vT B [s1,s2] v w
def aa5 (B:Nat)(v:Value)(w:World):Prop:=∃ (how:Int) (u:Value),v=.agg #[.string ⟨#[122,111,111]⟩,.int .i64 how,u]∧F7 B u w
def Om (B:Nat)(i:Nat)(v:Value)(w:World):Prop :=
 match i with
 | 3=>qU 1 7 v
 | 5=>vT B [⟨#[97]⟩,⟨#[66]⟩] v w
 | 6=>IsS 10 v
 | 8=>vT B [⟨#[97]⟩,⟨#[98]⟩] v w
 | 9=>IsS 10 v
 | 10=>F7 B v w
 | 11=>aa5 B v w
 | _=>True
theorem F7.keep {b B:Nat}{v:Value}{w w':World}(h:F7 B v w)(k:SK b w w')(hb:b < B):F7 B v w':=by
 obtain ⟨s1,s2,h1,h2,h3⟩:=h;exact ⟨s1,s2,h1,h2,h3.keep k hb⟩
theorem ahZ {b B:Nat}(hb:b < B)(i:Nat)(v:Value)(w w':World)(k:SK b w w')(h:Om B i v w):Om B i v w':=by
 unfold Om at *;split at h
 ·exact h
 ·exact h.keep k hb
 ·exact h
 ·exact h.keep k hb
 ·exact h
 ·exact h.keep k hb
 ·obtain ⟨how,u,e,h1⟩:=h;exact ⟨how,u,e,h1.keep k hb⟩
 ·exact h
abbrev JR (B R Z:Nat)(vk:Value)(most:Int)(vw vs:Value)(Ak:Option Addr)(zs:List Int)(ws:List ah)(qs:List SQ):List Chunk :=
 [.loc R fE 29,.loc Z #[vk,.int .i64 most,vw,vs] 29,.sl ay Ak zs,.own aO B 46 vw ws,.own qX B 124 vs qs,.pU qs]
theorem aai (b m:Nat)(w:World)(hs:bQ b m w)(hm:m≤10000000)(hN:Names w)(hNb:0≠b)(hP:Pool w)(hPb:1≠b) :
  Calls Tryz.prog 15 #[.pointer (some ⟨b,0,none⟩)] w (ahW b (m + 1000) w):=by
 have S:=(St.start hs).new' fE 29;replace S:St b m w (w.alloc (.cells fE 29)) [.loc w.heap.size fE 29]:=S;have HN:=Z9 hN;have HP:=Z9 hP;clear hs hN hP;obtain ⟨R,hR⟩:∃ R,R=w.heap.size:=⟨_,rfl⟩;rw [← hR] at S;go_enter Tryz.func15,Tryz.ntmps15
 go_upto_region 1 with fail
 generalize w.alloc (.cells fE 29)=w1 at *;rw [← hR];clear hR;refine Nu 20 (fun _=>True) [.q 6,.q 10,.q 13,.q 14,.f [0,1,2,3,4,5,7,8,9,11,12,15,16,17,18,19],.e 20] (by kernel_rfl) (by kernel_rfl) (fun _ _=>trivial) (fun KK aF wd hd=>?_);replace S:=S.below (hd.below _);have hbd:b < wd.heap.size:=Nat.lt_of_lt_of_le S.b0 S.g.size;clear hd;refine yH ?_;refine Rk [(0,7,[]),(1,8,[]),(2,9,[]),(3,10,[]),(4,11,[]),(5,12,[(0,7),(1,8),(2,9),(3,10),(4,11)]),(7,14,[]),(8,15,[(5,12),(7,14)]),(9,16,[(8,15)]),(11,18,[]),(12,19,[(7,14),(11,18)]),(15,22,[]),(16,23,[(12,19),(15,22)]),(17,24,[(16,23)]),(18,25,[(9,16),(12,19),(17,24)]),(19,3,[])] rfl (by kernel_rfl) (fun c w'=>G b (m + 30 * c) wd w') (SK b) (Ol b wd.heap.size) (G.start S.g.s) (fun _ _ _=>trivial) ?_ (by rfl) ?_ ?_
 ·refine all_cons ?_ (all_cons ?_ (all_cons ?_ (all_cons ?_ (all_cons ?_ (all_cons ?_ (all_cons ?_ (all_cons ?_ (all_cons ?_ (all_cons ?_ (all_cons ?_ (all_cons ?_ (all_cons ?_ (all_cons ?_ (all_cons ?_ (all_cons ?_ all_nil)))))))))))))));all_goals exact fun v w w' k h=>ahX hbd _ v w w' k h
 ·refine all_cons ?_ (all_cons ?_ (all_cons ?_ (all_cons ?_ (all_cons ?_ (all_cons ?_ (all_cons ?_ (all_cons ?_ (all_cons ?_ (all_cons ?_ (all_cons ?_ (all_cons ?_ (all_cons ?_ (all_cons ?_ (all_cons ?_ (all_cons ?_ all_nil)))))))))))))));all_goals (intro o ho c ν w2 hc hinv hp;cases ho;simp only [xg,Zk,List.foldl_nil];simp only [ZV,ZO] at hc)
  --@dev
  ·go_wp2_with fail
   first | exact ⟨_,rfl,(SK.refl _ _).alloc _,(hinv.alloc _).mono (by omega),w2.heap.size,rfl,LV.new _ _ _ _ rfl,hinv.size⟩ | exact ⟨(SK.refl _ _).alloc _,(hinv.alloc _).mono (by omega),w2.heap.size,rfl,LV.new _ _ _ _ rfl,hinv.size⟩
  ·go_wp2_with fail
   first | exact ⟨_,rfl,(SK.refl _ _).alloc _,(hinv.alloc _).mono (by omega),w2.heap.size,rfl,LV.new _ _ _ _ rfl,hinv.size⟩ | exact ⟨(SK.refl _ _).alloc _,(hinv.alloc _).mono (by omega),w2.heap.size,rfl,LV.new _ _ _ _ rfl,hinv.size⟩
  ·go_wp2_with fail
   first | exact ⟨_,rfl,(SK.refl _ _).alloc _,(hinv.alloc _).mono (by omega),w2.heap.size,rfl,LV.new _ _ _ _ rfl,hinv.size⟩ | exact ⟨(SK.refl _ _).alloc _,(hinv.alloc _).mono (by omega),w2.heap.size,rfl,LV.new _ _ _ _ rfl,hinv.size⟩
  ·go_wp2_with fail
   first | exact ⟨_,rfl,(SK.refl _ _).alloc _,(hinv.alloc _).mono (by omega),w2.heap.size,rfl,LV.new _ _ _ _ rfl,hinv.size⟩ | exact ⟨(SK.refl _ _).alloc _,(hinv.alloc _).mono (by omega),w2.heap.size,rfl,LV.new _ _ _ _ rfl,hinv.size⟩
  ·go_wp2_with fail
   first | exact ⟨_,rfl,(SK.refl _ _).alloc _,(hinv.alloc _).mono (by omega),w2.heap.size,rfl,LV.new _ _ _ _ rfl,hinv.size⟩ | exact ⟨(SK.refl _ _).alloc _,(hinv.alloc _).mono (by omega),w2.heap.size,rfl,LV.new _ _ _ _ rfl,hinv.size⟩
  ·obtain ⟨b0,e0,l0,g0⟩:=(hp (0,7) (by simp):iw wd.heap.size [1,2] (ν 0) w2);obtain ⟨b1,e1,l1,g1⟩:=(hp (1,8) (by simp):iw wd.heap.size [1,2,3,4] (ν 1) w2);obtain ⟨b2,e2,l2,g2⟩:=(hp (2,9) (by simp):iw wd.heap.size [1] (ν 2) w2);obtain ⟨b3,e3,l3,g3⟩:=(hp (3,10) (by simp):iw wd.heap.size [2,3] (ν 3) w2);obtain ⟨b4,e4,l4,g4⟩:=(hp (4,11) (by simp):iw wd.heap.size [4] (ν 4) w2);simp only [e0,e1,e2,e3,e4,ZV,ZO];go_wp2_with fail
   first | exact ⟨_,rfl,(SK.refl _ _).alloc _,(hinv.alloc _).mono (by omega),w2.heap.size,_,rfl,rfl,LV.new _ _ _ _ rfl,hinv.size,all_cons ⟨[1,2],by decide,.inr (iw.keep ⟨b0,rfl,l0,g0⟩ ((SK.refl b _).alloc _) hbd)⟩ (all_cons ⟨[1,2,3,4],by decide,.inr (iw.keep ⟨b1,rfl,l1,g1⟩ ((SK.refl b _).alloc _) hbd)⟩ (all_cons ⟨[1],by decide,.inr (iw.keep ⟨b2,rfl,l2,g2⟩ ((SK.refl b _).alloc _) hbd)⟩ (all_cons ⟨[2,3],by decide,.inr (iw.keep ⟨b3,rfl,l3,g3⟩ ((SK.refl b _).alloc _) hbd)⟩ (all_cons ⟨[4],by decide,.inr (iw.keep ⟨b4,rfl,l4,g4⟩ ((SK.refl b _).alloc _) hbd)⟩ all_nil))))⟩ | exact ⟨(SK.refl _ _).alloc _,(hinv.alloc _).mono (by omega),w2.heap.size,_,rfl,rfl,LV.new _ _ _ _ rfl,hinv.size,all_cons ⟨[1,2],by decide,.inr (iw.keep ⟨b0,rfl,l0,g0⟩ ((SK.refl b _).alloc _) hbd)⟩ (all_cons ⟨[1,2,3,4],by decide,.inr (iw.keep ⟨b1,rfl,l1,g1⟩ ((SK.refl b _).alloc _) hbd)⟩ (all_cons ⟨[1],by decide,.inr (iw.keep ⟨b2,rfl,l2,g2⟩ ((SK.refl b _).alloc _) hbd)⟩ (all_cons ⟨[2,3],by decide,.inr (iw.keep ⟨b3,rfl,l3,g3⟩ ((SK.refl b _).alloc _) hbd)⟩ (all_cons ⟨[4],by decide,.inr (iw.keep ⟨b4,rfl,l4,g4⟩ ((SK.refl b _).alloc _) hbd)⟩ all_nil))))⟩
  ·go_wp2_with fail
   refine (next_any b _ _ _ hinv.s (by omega) (by omega) (by omega)).mono ?_;rintro e w3 ⟨r,Nv,Nw,rfl,bF,dJ⟩;go_wp2_with fail
   refine ⟨_,rfl,bF,(hinv.step bF dJ).mono (by omega),?_⟩;exact ⟨r,rfl,by omega,by omega⟩
  ·obtain ⟨blk,vs,hl,e1,lv,hB,hP⟩:=(hp (5,12) (by simp):Ko 22 wd.heap.size 5 (PI wd.heap.size) (ν 5) w2);obtain ⟨z,e2,z1,z2⟩:=(hp (7,14) (by simp):qU 0 4 (ν 7));obtain ⟨q,rfl⟩:=Zi z1;simp only [e1,e2];go_wp2_with fail
   first | exact ⟨_,rfl,SK.refl _ _,hinv.mono (by omega),blk,q,vs,by omega,by simp,lv,hB,hP⟩ | exact ⟨SK.refl _ _,hinv.mono (by omega),blk,q,vs,by omega,by simp,lv,hB,hP⟩
  ·obtain ⟨blk,q,vs,hq,e1,lv,hB,hP⟩:=(hp (8,15) (by simp):Kq 22 wd.heap.size (PI wd.heap.size) (ν 8) w2);have Oo:=hP _ (List.getElem_mem hq);have hc:w2.cell? ⟨blk,q,none⟩=some vs[q]:=lv.cell q _ (by simp [Z8 hq]);obtain ⟨A,n,c,e2⟩:=Oo.form;rw [e2] at Oo hc;simp only [e1];go_wp2_with fail
   first | exact ⟨_,rfl,SK.refl _ _,hinv.mono (by omega),Oo⟩ | exact ⟨SK.refl _ _,hinv.mono (by omega),Oo⟩
  ·go_wp2_with fail
   first | exact ⟨_,rfl,(SK.refl _ _).alloc _,(hinv.alloc _).mono (by omega),w2.heap.size,rfl,LV.new _ _ _ _ rfl,hinv.size⟩ | exact ⟨(SK.refl _ _).alloc _,(hinv.alloc _).mono (by omega),w2.heap.size,rfl,LV.new _ _ _ _ rfl,hinv.size⟩
  ·have h7:iw wd.heap.size [2,3,4,2000] (ν 11) w2:=hp (11,18) (by simp);go_wp2_with fail
   refine (h7.pick hinv.s hbd (by simp) (by simp) (by omega)).mono ?_;rintro e w3 ⟨r,hr,rfl,bF,dJ⟩;go_wp2_with fail
   refine ⟨_,rfl,bF,(hinv.step bF dJ).mono (by omega),?_⟩;exact ⟨r,rfl,by simp at hr;omega,by simp at hr;omega⟩
  ·go_wp2_with fail
   first | exact ⟨_,rfl,(SK.refl _ _).alloc _,(hinv.alloc _).mono (by omega),w2.heap.size,rfl,LV.new _ _ _ _ rfl,hinv.size⟩ | exact ⟨(SK.refl _ _).alloc _,(hinv.alloc _).mono (by omega),w2.heap.size,rfl,LV.new _ _ _ _ rfl,hinv.size⟩
  ·have h7:iw wd.heap.size [0,0,0,1,2] (ν 15) w2:=hp (15,22) (by simp);go_wp2_with fail
   refine (h7.pick hinv.s hbd (by simp) (by simp) (by omega)).mono ?_;rintro e w3 ⟨r,hr,rfl,bF,dJ⟩;go_wp2_with fail
   refine ⟨_,rfl,bF,(hinv.step bF dJ).mono (by omega),?_⟩;exact ⟨r,rfl,by simp at hr;omega,by simp at hr;omega⟩
  ·obtain ⟨z,e2,z1,z2⟩:=(hp (16,23) (by simp):qU 0 2 (ν 16));obtain ⟨q,rfl⟩:=Zi z1;simp only [e2];go_wp2_with fail
   refine (aaX b _ q w2 hinv.s (by omega) (by omega) ((HP.out.keep S.g.k hPb).keep hinv.k hPb) hPb).mono ?_;rintro e w3 ⟨v,xs,rfl,hxl,hxs,T⟩;go_wp2_with fail
   exact ⟨_,rfl,T.g.k,(hinv.step T.g.k T.g.s).mono (by omega),xs,((T.ow 0 rfl).FP jg).base hinv.size,by omega,hxs⟩
  ·have h7:PI wd.heap.size (ν 9) w2:=hp (9,16) (by simp);obtain ⟨most,e1,_⟩:=(hp (12,19) (by simp):qU 2 2000 (ν 12));have h8:F6 b wd.heap.size (ν 17) w2:=hp (17,24) (by simp);obtain ⟨A,n,c,e3⟩:=h7.form;obtain ⟨xs,h9,h10,h11⟩:=h8;obtain ⟨A2,c2,e4⟩:=h9.len;rw [e3] at h7;rw [e4] at h9;simp only [e1,e3,e4];go_wp2_with fail
   first | exact ⟨_,rfl,SK.refl _ _,hinv.mono (by omega),_,_,most,rfl,h7,xs,h9,h10,h11⟩ | exact ⟨SK.refl _ _,hinv.mono (by omega),_,_,most,rfl,h7,xs,h9,h10,h11⟩
  ·go_wp2_with fail
   first | exact ⟨_,rfl,(SK.refl _ _).alloc _,(hinv.alloc _).mono (by omega),w2.heap.size,rfl,LV.new _ _ _ _ rfl,hinv.size⟩ | exact ⟨(SK.refl _ _).alloc _,(hinv.alloc _).mono (by omega),w2.heap.size,rfl,LV.new _ _ _ _ rfl,hinv.size⟩
  --@xB
 ·intro ν w2 hinv hf;obtain ⟨vk,vw,most,e18,⟨zs,hzl,hzs⟩,ws,hws,hwl,hwt⟩:=(hf (18,25,[(9,16),(12,19),(17,24)]) (by simp):aa4 b wd.heap.size (ν 18) w2);obtain ⟨Z,e19,pK,hZ⟩:=(hf (19,3,[]) (by simp):AL wd.heap.size fE 29 (ν 19) w2);have hwd:=S.g.size;have o1:∀ M,Own ay M w.heap.size 3 w2 vk zs:=fun M=>hzs.own hwd (by omega);have o2:∀ M,Own aO M w.heap.size 46 w2 vw ws:=fun M=>(hws.FP jg).base hwd;replace S:=S.Jp hinv [.loc Z fE 29,.own ay w.heap.size 3 vk zs,.own aO w.heap.size 46 vw ws]
   (all_cons pK (all_cons (o1 _) (all_cons (o2 _) all_nil))) (all_cons (fun k e=>by cases e;exact hZ) (all_cons hzs.ge (all_cons (fun k e=>(hws.lt k e).1) all_nil)))
   (List.pairwise_cons.2 ⟨all_cons (fun k e1 e2=>by cases e1;exact (o1 (fun _=>True)).Yr pK (by decide) _ e2 rfl) (all_cons (fun k e1 e2=>by cases e1;exact (o2 (fun _=>True)).Yr pK (by decide) _ e2 rfl) all_nil),
    List.pairwise_cons.2 ⟨all_cons (fun k e1=>(o1 (fun _=>True)).afL (o2 (fun _=>True)) (by decide) k e1) all_nil,List.pairwise_cons.2 ⟨all_nil,List.Pairwise.nil⟩⟩⟩)
  clear o1 o2;replace S:St b (m + 480) w w2 [.loc R fE 29,.loc Z fE 29,.own ay w.heap.size 3 vk zs,.own aO w.heap.size 46 vw ws]:=S.mono (by show _≤_;simp);obtain ⟨Ak,ck,rfl,S3⟩:=S.cO 2 rfl;obtain ⟨Aw,cw,rfl⟩:=(S3.ow 3 rfl).len;have nU:=Z9 hwt;simp only [xg,Zt,List.map_nil,Zk,List.foldl_nil,e18,e19];clear hf hinv pK e18 e19 hzs hws hwt S;have S:=S3;clear S3;have pV:Hid (zs.length≤4):=hzl;have Hwl:Hid (ws.length≤300):=ZE hwl (by decide);clear hzl;generalize ν 0=q0;generalize ν 1=q1;generalize ν 2=q2;generalize ν 3=q3;generalize ν 4=q4;generalize ν 5=q5;generalize ν 7=q7;generalize ν 8=q8;generalize ν 9=q9;generalize ν 11=q11;generalize ν 12=q12;generalize ν 15=q15;generalize ν 16=q16;generalize ν 17=q17;have x0:=(S.lv 1 rfl).all;refine vC rfl rfl (fun K hK=>?_);go_wp2_with fail
  refine ⟨fun h=>absurd rfl h,?_⟩;refine Ny ?_;simp only [Exit.then];refine aF _ _ ?_;have S2:=((((S.set 1 0 (.slice Ak zs.length ck) rfl).set 1 1 (.int .i64 most) rfl).set 1 2 (.slice Aw ws.length cw) rfl).set 1 3 (.slice none 0 0) rfl).nil qX w.heap.size 124;have S3:=S2.call (G.start S2.g.s) (.pU []) (fun q hq=>by cases hq) (fun k e=>by cases e);replace S2:St b (m + 480) w ((((w2.setCell ⟨Z,0,none⟩ (.slice Ak zs.length ck)).setCell ⟨Z,1,none⟩ (.int .i64 most)).setCell ⟨Z,2,none⟩ (.slice Aw ws.length cw)).setCell ⟨Z,3,none⟩ (.slice none 0 0)) (JR w.heap.size R Z (.slice Ak zs.length ck) most (.slice Aw ws.length cw) (.slice none 0 0) Ak zs ws []):=S3;clear x0 S S3;generalize (((w2.setCell ⟨Z,0,none⟩ (.slice Ak zs.length ck)).setCell ⟨Z,1,none⟩ (.int .i64 most)).setCell ⟨Z,2,none⟩ (.slice Aw ws.length cw)).setCell ⟨Z,3,none⟩ (.slice none 0 0)=w3 at *;have S:=S2;clear S2;obtain ⟨n0,n1,n2,n3,n4,n5⟩:=HN.out.keep S.g.k hNb;go_wp2_with fail
  clear n0 n1 n2 n3 n4 n5;go_loopw [27] (fun i wr=>∃ (k:Nat) (As:Option Addr) (ca:Nat) (qs:List SQ),k≤6∧i=.int .i64 k∧Hid (qs.length≤k)∧Hid (∀ q∈qs,yR q)∧St b (m + 500 + 10 * k) w wr (JR w.heap.size R Z (.slice Ak zs.length ck) most (.slice Aw ws.length cw) (.slice As qs.length ca) Ak zs ws qs)) (fun i _=>6 - (intOf i).toNat)
  case atStart=>exact ⟨0,none,0,[],ZN _,rfl,Z5 0,(by show ∀ _∈_,_;simp),S.mono (by omega)⟩
  case round =>
   clear S;obtain ⟨k,As,ca,qs,hk,rfl,bY,dV,S⟩:=hrel;by_cases NY:k < 6
   ·obtain ⟨nm,hnm,hix⟩:=aaq k NY;--@dev
    go_wp2_with fail
    refine (flip_any b _ _ _ S.g.s (by omega) (by omega) (by omega)).mono ?_;rintro e w4 ⟨r4,rfl,dK,eH⟩;replace S:=S.step dK eH;clear dK eH;clear hix;cases r4
    ·go_wp2_with fail
     go_roundw
     case rel=>exact ⟨k + 1,As,ca,qs,by omega,by go_num,by show _≤_;have:=bY.out;omega,dV,S.mono (by omega)⟩
     case measure=>simp [intOf];omega
    ·go_wp2_with fail
     refine (range_any b _ _ _ _ S.g.s (by omega) (by omega) (by omega) (by omega)).mono ?_;rintro e w5 ⟨how,ah0,ah1,rfl,dD,gK⟩;replace S:=S.step dD gK;clear dD gK;obtain ⟨X,hX⟩:∃ X,X=w5.heap.size:=⟨_,rfl⟩;have S5:=S.newAt #[.string nm,.int .i64 how,.slice none 0 0] 124 X hX;clear S;go_upto_region 7 with fail
     rw [← hX];clear hX;generalize w5.alloc (.cells #[.string nm,.int .i64 how,.slice none 0 0] 124)=w6 at *;have S:=S5;clear S5;replace S:St b (m + 500 + 10 * k + 1 + 1) w w6 (JR w.heap.size R Z (.slice Ak zs.length ck) most (.slice Aw ws.length cw) (.slice As qs.length ca) Ak zs ws qs++[.loc X #[.string nm,.int .i64 how,.slice none 0 0] 124]):=S;by_cases h5:how=5
     ·have h5':(how==5)=true:=by simpa using h5
      have x0:=(S.lv 6 rfl).all;obtain ⟨L,hL⟩:∃ L,L=w6.heap.size:=⟨_,rfl⟩;go_upto_region 8 with fail
      clear x0 h5' h5;go_wp2_with fail
      obtain ⟨A1,c1,e1,S1⟩:=((S.newAt #[.string ⟨#[115,104,111,112]⟩] 9 L hL).sQ Oq 7 rfl [⟨#[115,104,111,112]⟩] rfl rfl (by simp) rfl 1 rfl).cO 7 rfl;cases e1;replace S1:St b (m + 500 + 10 * k + 1 + 1) w (w6.alloc (.cells #[.string ⟨#[115,104,111,112]⟩] 9)) (JR w.heap.size R Z (.slice Ak zs.length ck) most (.slice Aw ws.length cw) (.slice As qs.length ca) Ak zs ws qs++[Chunk.loc X #[.string nm,.int .i64 how,.slice none 0 0] 124,.sl fB (some ⟨L,0,none⟩) [⟨#[115,104,111,112]⟩]]):=S1;obtain ⟨A2,c2,e2,S2⟩:=((S1.newAt #[.string ⟨#[100,101,115,107]⟩,.string ⟨#[115,104,111,112]⟩] 9 (L + 1) (by rw [hL,World.size_alloc])).sQ Oq 8 rfl [⟨#[100,101,115,107]⟩,⟨#[115,104,111,112]⟩] rfl rfl (by simp) rfl 2 rfl).cO 8 rfl;cases e2;replace S2:St b (m + 500 + 10 * k + 1 + 1) w ((w6.alloc (.cells #[.string ⟨#[115,104,111,112]⟩] 9)).alloc (.cells #[.string ⟨#[100,101,115,107]⟩,.string ⟨#[115,104,111,112]⟩] 9)) (JR w.heap.size R Z (.slice Ak zs.length ck) most (.slice Aw ws.length cw) (.slice As qs.length ca) Ak zs ws qs++[Chunk.loc X #[.string nm,.int .i64 how,.slice none 0 0] 124,.sl fB (some ⟨L,0,none⟩) [⟨#[115,104,111,112]⟩],.sl fB (some ⟨L + 1,0,none⟩) [⟨#[100,101,115,107]⟩,⟨#[115,104,111,112]⟩]]):=S2;obtain ⟨A3,c3,e3,S3⟩:=((S2.newAt #[.string ⟨#[97,112,112]⟩,.string ⟨#[110,111,119,104,101,114,101]⟩,.string ⟨#[100,101,115,107]⟩] 9 (L + 1 + 1) (by rw [hL,World.size_alloc,World.size_alloc])).sQ Oq 9 rfl [⟨#[97,112,112]⟩,⟨#[110,111,119,104,101,114,101]⟩,⟨#[100,101,115,107]⟩] rfl rfl (by simp) rfl 3 rfl).cO 9 rfl
      cases e3;replace S3:St b (m + 500 + 10 * k + 1 + 1) w (((w6.alloc (.cells #[.string ⟨#[115,104,111,112]⟩] 9)).alloc (.cells #[.string ⟨#[100,101,115,107]⟩,.string ⟨#[115,104,111,112]⟩] 9)).alloc (.cells #[.string ⟨#[97,112,112]⟩,.string ⟨#[110,111,119,104,101,114,101]⟩,.string ⟨#[100,101,115,107]⟩] 9)) (JR w.heap.size R Z (.slice Ak zs.length ck) most (.slice Aw ws.length cw) (.slice As qs.length ca) Ak zs ws qs++[Chunk.loc X #[.string nm,.int .i64 how,.slice none 0 0] 124,.sl fB (some ⟨L,0,none⟩) [⟨#[115,104,111,112]⟩],.sl fB (some ⟨L + 1,0,none⟩) [⟨#[100,101,115,107]⟩,⟨#[115,104,111,112]⟩],.sl fB (some ⟨L + 1 + 1,0,none⟩) [⟨#[97,112,112]⟩,⟨#[110,111,119,104,101,114,101]⟩,⟨#[100,101,115,107]⟩]]):=S3;have S4:=S3.newAt #[.slice none 0 0,.slice (some ⟨L,0,none⟩) 1 1,.slice (some ⟨L + 1,0,none⟩) 2 2,.slice (some ⟨L + 1 + 1,0,none⟩) 3 3] 122 (L + 1 + 1 + 1) (by rw [hL,World.size_alloc,World.size_alloc,World.size_alloc]);replace S4:St b (m + 500 + 10 * k + 1 + 1) w ((((w6.alloc (.cells #[.string ⟨#[115,104,111,112]⟩] 9)).alloc (.cells #[.string ⟨#[100,101,115,107]⟩,.string ⟨#[115,104,111,112]⟩] 9)).alloc (.cells #[.string ⟨#[97,112,112]⟩,.string ⟨#[110,111,119,104,101,114,101]⟩,.string ⟨#[100,101,115,107]⟩] 9)).alloc (.cells #[.slice none 0 0,.slice (some ⟨L,0,none⟩) 1 1,.slice (some ⟨L + 1,0,none⟩) 2 2,.slice (some ⟨L + 1 + 1,0,none⟩) 3 3] 122)) ((JR w.heap.size R Z (.slice Ak zs.length ck) most (.slice Aw ws.length cw) (.slice As qs.length ca) Ak zs ws qs++[Chunk.loc X #[.string nm,.int .i64 how,.slice none 0 0] 124])++[Chunk.sl fB (some ⟨L,0,none⟩) [⟨#[115,104,111,112]⟩],.sl fB (some ⟨L + 1,0,none⟩) [⟨#[100,101,115,107]⟩,⟨#[115,104,111,112]⟩],.sl fB (some ⟨L + 1 + 1,0,none⟩) [⟨#[97,112,112]⟩,⟨#[110,111,119,104,101,114,101]⟩,⟨#[100,101,115,107]⟩],.loc (L + 1 + 1 + 1) #[.slice none 0 0,.slice (some ⟨L,0,none⟩) 1 1,.slice (some ⟨L + 1,0,none⟩) 2 2,.slice (some ⟨L + 1 + 1,0,none⟩) 3 3] 122]):=S4
      clear S S1 S2 S3;have S:=S4;clear S4;go_wp2_with fail
      rw [← hL];clear hL;generalize (((w6.alloc (.cells #[.string ⟨#[115,104,111,112]⟩] 9)).alloc (.cells #[.string ⟨#[100,101,115,107]⟩,.string ⟨#[115,104,111,112]⟩] 9)).alloc (.cells #[.string ⟨#[97,112,112]⟩,.string ⟨#[110,111,119,104,101,114,101]⟩,.string ⟨#[100,101,115,107]⟩] 9)).alloc (.cells #[.slice none 0 0,.slice (some ⟨L,0,none⟩) 1 1,.slice (some ⟨L + 1,0,none⟩) 2 2,.slice (some ⟨L + 1 + 1,0,none⟩) 3 3] 122)=w7 at *;go_wp2_with fail
      refine (next_any b _ _ _ S.g.s (by omega) (by omega) (by omega)).mono ?_;rintro e w8 ⟨r8,amg,amh,rfl,vN,vO⟩;replace S:=S.step vN vO;clear vN vO;obtain rfl | rfl | rfl | rfl:r8=0∨r8=1∨r8=2∨r8=3:=by omega
      ·have l0:=(S.lv 10 rfl).all;have x0:=(S.lv 6 rfl).all;go_upto_region 9 with fail
       clear l0 x0;have S1:=S.Bj (.sl fB none []) rfl (by exact Sl.nil);clear S;have S2:=S1.set 6 2 (.slice none 0 0) rfl;clear S1;generalize w8.setCell ⟨X,2,none⟩ (.slice none 0 0)=w9 at *;replace S2:St b (m + 500 + 10 * k + 1 + 1 + 1) w w9 (JR w.heap.size R Z (.slice Ak zs.length ck) most (.slice Aw ws.length cw) (.slice As qs.length ca) Ak zs ws qs++[.loc X #[.string nm,.int .i64 how,.slice none 0 0] 124,.sl fB none []]):=S2;have S:=S2;clear S2;obtain ⟨x,hx⟩:∃ x:SQ,x=(⟨⟨nm,how,[]⟩,none,0⟩:SQ):=⟨_,rfl⟩;have Hsm:Hid (yR x):=by
        rw [hx];exact ⟨hnm,(show ([]:List ByteArray).length≤3 by decide),(show ∀ x∈([]:List ByteArray),x.size≤100 by decide)⟩
       have S5:=S.Eh 5 rfl x (by rw [hx];exact Z5 _) (by rw [hx];exact S.slc 7 rfl);replace S:St b (m + 500 + 10 * k + 5) w w9 [.loc R fE 29,.loc Z #[.slice Ak zs.length ck,.int .i64 most,.slice Aw ws.length cw,.slice As qs.length ca] 29,.sl ay Ak zs,.own aO w.heap.size 46 (.slice Aw ws.length cw) ws,.own qX w.heap.size 124 (.slice As qs.length ca) qs,.pU (qs++[x]),.loc X #[.string x.s.name,.int .i64 x.s.how,.slice x.A x.s.srcs.length x.c] 124]:=by
        rw [show #[Value.string x.s.name,.int .i64 x.s.how,.slice x.A x.s.srcs.length x.c]=#[.string nm,.int .i64 how,.slice (SQ.A (⟨⟨nm,how,[]⟩,none,0⟩:SQ)) (SQ.s (⟨⟨nm,how,[]⟩,none,0⟩:SQ)).srcs.length (SQ.c (⟨⟨nm,how,[]⟩,none,0⟩:SQ))] by rw [hx]];exact St.mono (m:=m + 500 + 10 * k + 1 + 1 + 1) (S5.del 7) (by omega)
       clear S5;have z1:=(S.lv 1 rfl).all;have x1:=(S.lv 6 rfl).all;have hsz:=S.g.size;have jG:qs.length≤200:=by have:=bY.out;omega
       clear hx;go_wp2_with (at_builtin;refine S.app 4 rfl Ee rfl _ _ rfl x 1 rfl rfl rfl (Ef x) hsz (by omega) (by decide) ?_;intro v' w10 S6;obtain ⟨q2,hq2⟩:∃ q2,qs++[x]=q2:=⟨_,rfl⟩;rw [hq2] at S6;have gQ:=Z9 hq2;clear hq2;obtain ⟨A6,c6,rfl⟩:=(S6.ow 4 rfl).len;have z2:=(S6.lv 1 rfl).all)
       go_roundw
       case rel =>
        refine ⟨k + 1,A6,c6,q2,by omega,by go_num,?_,?_,St.mono (m:=m + 500 + 10 * k + 5) ((S6.set 1 3 (.slice A6 q2.length c6) rfl).del 6) (by omega)⟩
        ·show _≤_;have:=bY.out
         rw [← gQ.out];simp;omega
        ·intro q hq;rw [← gQ.out] at hq;rcases List.mem_append.1 hq with hq | hq
         ·exact dV.out q hq
         ·rw [List.mem_singleton.1 hq];exact Hsm.out
       case measure=>simp [intOf];omega
      ·have l0:=(S.lv 10 rfl).all;have x0:=(S.lv 6 rfl).all;go_upto_region 9 with fail
       clear l0 x0;have S1:=S.Bj (.sl fB (some ⟨L,0,none⟩) [⟨#[115,104,111,112]⟩]) rfl (by exact (S.slc 7 rfl).mono (fun _ _ h=>yS h));clear S;have S2:=S1.set 6 2 (.slice (some ⟨L,0,none⟩) 1 1) rfl;clear S1;generalize w8.setCell ⟨X,2,none⟩ (.slice (some ⟨L,0,none⟩) 1 1)=w9 at *;replace S2:St b (m + 500 + 10 * k + 1 + 1 + 1) w w9 (JR w.heap.size R Z (.slice Ak zs.length ck) most (.slice Aw ws.length cw) (.slice As qs.length ca) Ak zs ws qs++[.loc X #[.string nm,.int .i64 how,.slice (some ⟨L,0,none⟩) 1 1] 124,.sl fB (some ⟨L,0,none⟩) [⟨#[115,104,111,112]⟩]]):=S2;have S:=S2;clear S2;obtain ⟨x,hx⟩:∃ x:SQ,x=(⟨⟨nm,how,[⟨#[115,104,111,112]⟩]⟩,(some ⟨L,0,none⟩),1⟩:SQ):=⟨_,rfl⟩;have Hsm:Hid (yR x):=by
        rw [hx];exact ⟨hnm,(show ([⟨#[115,104,111,112]⟩]:List ByteArray).length≤3 by decide),(show ∀ x∈([⟨#[115,104,111,112]⟩]:List ByteArray),x.size≤100 by decide)⟩
       have S5:=S.Eh 5 rfl x (by rw [hx];exact Z5 _) (by rw [hx];exact S.slc 7 rfl);replace S:St b (m + 500 + 10 * k + 5) w w9 [.loc R fE 29,.loc Z #[.slice Ak zs.length ck,.int .i64 most,.slice Aw ws.length cw,.slice As qs.length ca] 29,.sl ay Ak zs,.own aO w.heap.size 46 (.slice Aw ws.length cw) ws,.own qX w.heap.size 124 (.slice As qs.length ca) qs,.pU (qs++[x]),.loc X #[.string x.s.name,.int .i64 x.s.how,.slice x.A x.s.srcs.length x.c] 124]:=by
        rw [show #[Value.string x.s.name,.int .i64 x.s.how,.slice x.A x.s.srcs.length x.c]=#[.string nm,.int .i64 how,.slice (SQ.A (⟨⟨nm,how,[⟨#[115,104,111,112]⟩]⟩,(some ⟨L,0,none⟩),1⟩:SQ)) (SQ.s (⟨⟨nm,how,[⟨#[115,104,111,112]⟩]⟩,(some ⟨L,0,none⟩),1⟩:SQ)).srcs.length (SQ.c (⟨⟨nm,how,[⟨#[115,104,111,112]⟩]⟩,(some ⟨L,0,none⟩),1⟩:SQ))] by rw [hx]];exact St.mono (m:=m + 500 + 10 * k + 1 + 1 + 1) (S5.del 7) (by omega)
       clear S5;have z1:=(S.lv 1 rfl).all;have x1:=(S.lv 6 rfl).all;have hsz:=S.g.size;have jG:qs.length≤200:=by have:=bY.out;omega
       clear hx;go_wp2_with (at_builtin;refine S.app 4 rfl Ee rfl _ _ rfl x 1 rfl rfl rfl (Ef x) hsz (by omega) (by decide) ?_;intro v' w10 S6;obtain ⟨q2,hq2⟩:∃ q2,qs++[x]=q2:=⟨_,rfl⟩;rw [hq2] at S6;have gQ:=Z9 hq2;clear hq2;obtain ⟨A6,c6,rfl⟩:=(S6.ow 4 rfl).len;have z2:=(S6.lv 1 rfl).all)
       go_roundw
       case rel =>
        refine ⟨k + 1,A6,c6,q2,by omega,by go_num,?_,?_,St.mono (m:=m + 500 + 10 * k + 5) ((S6.set 1 3 (.slice A6 q2.length c6) rfl).del 6) (by omega)⟩
        ·show _≤_;have:=bY.out
         rw [← gQ.out];simp;omega
        ·intro q hq;rw [← gQ.out] at hq;rcases List.mem_append.1 hq with hq | hq
         ·exact dV.out q hq
         ·rw [List.mem_singleton.1 hq];exact Hsm.out
       case measure=>simp [intOf];omega
      ·have l0:=(S.lv 10 rfl).all;have x0:=(S.lv 6 rfl).all;go_upto_region 9 with fail
       clear l0 x0;have S1:=S.Bj (.sl fB (some ⟨L + 1,0,none⟩) [⟨#[100,101,115,107]⟩,⟨#[115,104,111,112]⟩]) rfl (by exact (S.slc 8 rfl).mono (fun _ _ h=>yS h));clear S;have S2:=S1.set 6 2 (.slice (some ⟨L + 1,0,none⟩) 2 2) rfl;clear S1;generalize w8.setCell ⟨X,2,none⟩ (.slice (some ⟨L + 1,0,none⟩) 2 2)=w9 at *;replace S2:St b (m + 500 + 10 * k + 1 + 1 + 1) w w9 (JR w.heap.size R Z (.slice Ak zs.length ck) most (.slice Aw ws.length cw) (.slice As qs.length ca) Ak zs ws qs++[.loc X #[.string nm,.int .i64 how,.slice (some ⟨L + 1,0,none⟩) 2 2] 124,.sl fB (some ⟨L + 1,0,none⟩) [⟨#[100,101,115,107]⟩,⟨#[115,104,111,112]⟩]]):=S2;have S:=S2;clear S2;obtain ⟨x,hx⟩:∃ x:SQ,x=(⟨⟨nm,how,[⟨#[100,101,115,107]⟩,⟨#[115,104,111,112]⟩]⟩,(some ⟨L + 1,0,none⟩),2⟩:SQ):=⟨_,rfl⟩;have Hsm:Hid (yR x):=by
        rw [hx];exact ⟨hnm,(show ([⟨#[100,101,115,107]⟩,⟨#[115,104,111,112]⟩]:List ByteArray).length≤3 by decide),(show ∀ x∈([⟨#[100,101,115,107]⟩,⟨#[115,104,111,112]⟩]:List ByteArray),x.size≤100 by decide)⟩
       have S5:=S.Eh 5 rfl x (by rw [hx];exact Z5 _) (by rw [hx];exact S.slc 7 rfl);replace S:St b (m + 500 + 10 * k + 5) w w9 [.loc R fE 29,.loc Z #[.slice Ak zs.length ck,.int .i64 most,.slice Aw ws.length cw,.slice As qs.length ca] 29,.sl ay Ak zs,.own aO w.heap.size 46 (.slice Aw ws.length cw) ws,.own qX w.heap.size 124 (.slice As qs.length ca) qs,.pU (qs++[x]),.loc X #[.string x.s.name,.int .i64 x.s.how,.slice x.A x.s.srcs.length x.c] 124]:=by
        rw [show #[Value.string x.s.name,.int .i64 x.s.how,.slice x.A x.s.srcs.length x.c]=#[.string nm,.int .i64 how,.slice (SQ.A (⟨⟨nm,how,[⟨#[100,101,115,107]⟩,⟨#[115,104,111,112]⟩]⟩,(some ⟨L + 1,0,none⟩),2⟩:SQ)) (SQ.s (⟨⟨nm,how,[⟨#[100,101,115,107]⟩,⟨#[115,104,111,112]⟩]⟩,(some ⟨L + 1,0,none⟩),2⟩:SQ)).srcs.length (SQ.c (⟨⟨nm,how,[⟨#[100,101,115,107]⟩,⟨#[115,104,111,112]⟩]⟩,(some ⟨L + 1,0,none⟩),2⟩:SQ))] by rw [hx]];exact St.mono (m:=m + 500 + 10 * k + 1 + 1 + 1) (S5.del 7) (by omega)
       clear S5;have z1:=(S.lv 1 rfl).all;have x1:=(S.lv 6 rfl).all;have hsz:=S.g.size;have jG:qs.length≤200:=by have:=bY.out;omega
       clear hx;go_wp2_with (at_builtin;refine S.app 4 rfl Ee rfl _ _ rfl x 1 rfl rfl rfl (Ef x) hsz (by omega) (by decide) ?_;intro v' w10 S6;obtain ⟨q2,hq2⟩:∃ q2,qs++[x]=q2:=⟨_,rfl⟩;rw [hq2] at S6;have gQ:=Z9 hq2;clear hq2;obtain ⟨A6,c6,rfl⟩:=(S6.ow 4 rfl).len;have z2:=(S6.lv 1 rfl).all)
       go_roundw
       case rel =>
        refine ⟨k + 1,A6,c6,q2,by omega,by go_num,?_,?_,St.mono (m:=m + 500 + 10 * k + 5) ((S6.set 1 3 (.slice A6 q2.length c6) rfl).del 6) (by omega)⟩
        ·show _≤_;have:=bY.out
         rw [← gQ.out];simp;omega
        ·intro q hq;rw [← gQ.out] at hq;rcases List.mem_append.1 hq with hq | hq
         ·exact dV.out q hq
         ·rw [List.mem_singleton.1 hq];exact Hsm.out
       case measure=>simp [intOf];omega
      ·have l0:=(S.lv 10 rfl).all;have x0:=(S.lv 6 rfl).all;go_upto_region 9 with fail
       clear l0 x0;have S1:=S.Bj (.sl fB (some ⟨L + 1 + 1,0,none⟩) [⟨#[97,112,112]⟩,⟨#[110,111,119,104,101,114,101]⟩,⟨#[100,101,115,107]⟩]) rfl (by exact (S.slc 9 rfl).mono (fun _ _ h=>yS h));clear S;have S2:=S1.set 6 2 (.slice (some ⟨L + 1 + 1,0,none⟩) 3 3) rfl;clear S1;generalize w8.setCell ⟨X,2,none⟩ (.slice (some ⟨L + 1 + 1,0,none⟩) 3 3)=w9 at *;replace S2:St b (m + 500 + 10 * k + 1 + 1 + 1) w w9 (JR w.heap.size R Z (.slice Ak zs.length ck) most (.slice Aw ws.length cw) (.slice As qs.length ca) Ak zs ws qs++[.loc X #[.string nm,.int .i64 how,.slice (some ⟨L + 1 + 1,0,none⟩) 3 3] 124,.sl fB (some ⟨L + 1 + 1,0,none⟩) [⟨#[97,112,112]⟩,⟨#[110,111,119,104,101,114,101]⟩,⟨#[100,101,115,107]⟩]]):=S2;have S:=S2;clear S2;obtain ⟨x,hx⟩:∃ x:SQ,x=(⟨⟨nm,how,[⟨#[97,112,112]⟩,⟨#[110,111,119,104,101,114,101]⟩,⟨#[100,101,115,107]⟩]⟩,(some ⟨L + 1 + 1,0,none⟩),3⟩:SQ):=⟨_,rfl⟩;have Hsm:Hid (yR x):=by
        rw [hx];exact ⟨hnm,(show ([⟨#[97,112,112]⟩,⟨#[110,111,119,104,101,114,101]⟩,⟨#[100,101,115,107]⟩]:List ByteArray).length≤3 by decide),(show ∀ x∈([⟨#[97,112,112]⟩,⟨#[110,111,119,104,101,114,101]⟩,⟨#[100,101,115,107]⟩]:List ByteArray),x.size≤100 by decide)⟩
       have S5:=S.Eh 5 rfl x (by rw [hx];exact Z5 _) (by rw [hx];exact S.slc 7 rfl);replace S:St b (m + 500 + 10 * k + 5) w w9 [.loc R fE 29,.loc Z #[.slice Ak zs.length ck,.int .i64 most,.slice Aw ws.length cw,.slice As qs.length ca] 29,.sl ay Ak zs,.own aO w.heap.size 46 (.slice Aw ws.length cw) ws,.own qX w.heap.size 124 (.slice As qs.length ca) qs,.pU (qs++[x]),.loc X #[.string x.s.name,.int .i64 x.s.how,.slice x.A x.s.srcs.length x.c] 124]:=by
        rw [show #[Value.string x.s.name,.int .i64 x.s.how,.slice x.A x.s.srcs.length x.c]=#[.string nm,.int .i64 how,.slice (SQ.A (⟨⟨nm,how,[⟨#[97,112,112]⟩,⟨#[110,111,119,104,101,114,101]⟩,⟨#[100,101,115,107]⟩]⟩,(some ⟨L + 1 + 1,0,none⟩),3⟩:SQ)) (SQ.s (⟨⟨nm,how,[⟨#[97,112,112]⟩,⟨#[110,111,119,104,101,114,101]⟩,⟨#[100,101,115,107]⟩]⟩,(some ⟨L + 1 + 1,0,none⟩),3⟩:SQ)).srcs.length (SQ.c (⟨⟨nm,how,[⟨#[97,112,112]⟩,⟨#[110,111,119,104,101,114,101]⟩,⟨#[100,101,115,107]⟩]⟩,(some ⟨L + 1 + 1,0,none⟩),3⟩:SQ))] by rw [hx]];exact St.mono (m:=m + 500 + 10 * k + 1 + 1 + 1) (S5.del 7) (by omega)
       clear S5;have z1:=(S.lv 1 rfl).all;have x1:=(S.lv 6 rfl).all;have hsz:=S.g.size;have jG:qs.length≤200:=by have:=bY.out;omega
       clear hx;go_wp2_with (at_builtin;refine S.app 4 rfl Ee rfl _ _ rfl x 1 rfl rfl rfl (Ef x) hsz (by omega) (by decide) ?_;intro v' w10 S6;obtain ⟨q2,hq2⟩:∃ q2,qs++[x]=q2:=⟨_,rfl⟩;rw [hq2] at S6;have gQ:=Z9 hq2;clear hq2;obtain ⟨A6,c6,rfl⟩:=(S6.ow 4 rfl).len;have z2:=(S6.lv 1 rfl).all)
       go_roundw
       case rel =>
        refine ⟨k + 1,A6,c6,q2,by omega,by go_num,?_,?_,St.mono (m:=m + 500 + 10 * k + 5) ((S6.set 1 3 (.slice A6 q2.length c6) rfl).del 6) (by omega)⟩
        ·show _≤_;have:=bY.out
         rw [← gQ.out];simp;omega
        ·intro q hq;rw [← gQ.out] at hq;rcases List.mem_append.1 hq with hq | hq
         ·exact dV.out q hq
         ·rw [List.mem_singleton.1 hq];exact Hsm.out
       case measure=>simp [intOf];omega
     ·have h5':(how==5)=false:=by simpa using h5
      clear h5;have x0:=(S.lv 6 rfl).all;go_upto_region 9 with fail
      clear x0;obtain ⟨x,hx⟩:∃ x:SQ,x=(⟨⟨nm,how,[]⟩,none,0⟩:SQ):=⟨_,rfl⟩;have Hsm:Hid (yR x):=by
       rw [hx];exact ⟨hnm,ZN _,fun x hx=>by cases hx⟩
      have S5:=S.Eh 5 rfl x (by rw [hx];exact Z5 _) (by rw [hx];exact Sl.nil);replace S:St b (m + 500 + 10 * k + 5) w w6 [.loc R fE 29,.loc Z #[.slice Ak zs.length ck,.int .i64 most,.slice Aw ws.length cw,.slice As qs.length ca] 29,.sl ay Ak zs,.own aO w.heap.size 46 (.slice Aw ws.length cw) ws,.own qX w.heap.size 124 (.slice As qs.length ca) qs,.pU (qs++[x]),.loc X #[.string x.s.name,.int .i64 x.s.how,.slice x.A x.s.srcs.length x.c] 124]:=by
       rw [show #[Value.string x.s.name,.int .i64 x.s.how,.slice x.A x.s.srcs.length x.c]=#[.string nm,.int .i64 how,.slice (SQ.A (⟨⟨nm,how,[]⟩,none,0⟩:SQ)) (SQ.s (⟨⟨nm,how,[]⟩,none,0⟩:SQ)).srcs.length (SQ.c (⟨⟨nm,how,[]⟩,none,0⟩:SQ))] by rw [hx]];exact St.mono (m:=m + 500 + 10 * k + 1 + 1) S5 (by omega)
      clear S5;have z1:=(S.lv 1 rfl).all;have x1:=(S.lv 6 rfl).all;have hsz:=S.g.size;have jG:qs.length≤200:=by have:=bY.out;omega
      clear hx;go_wp2_with (at_builtin;refine S.app 4 rfl Ee rfl _ _ rfl x 1 rfl rfl rfl (Ef x) hsz (by omega) (by decide) ?_;intro v' w10 S6;obtain ⟨q2,hq2⟩:∃ q2,qs++[x]=q2:=⟨_,rfl⟩;rw [hq2] at S6;have gQ:=Z9 hq2;clear hq2;obtain ⟨A6,c6,rfl⟩:=(S6.ow 4 rfl).len;have z2:=(S6.lv 1 rfl).all)
      go_roundw
      case rel =>
       refine ⟨k + 1,A6,c6,q2,by omega,by go_num,?_,?_,St.mono (m:=m + 500 + 10 * k + 5) ((S6.set 1 3 (.slice A6 q2.length c6) rfl).del 6) (by omega)⟩
       ·show _≤_;have:=bY.out
        rw [← gQ.out];simp;omega
       ·intro q hq;rw [← gQ.out] at hq;rcases List.mem_append.1 hq with hq | hq
        ·exact dV.out q hq
        ·rw [List.mem_singleton.1 hq];exact Hsm.out
      case measure=>simp [intOf];omega
    --@xB
   ·obtain rfl:k=6:=by omega
    clear NY;go_wp2_with fail
    refine (flip_any b _ _ _ S.g.s (by omega) (by omega) (by omega)).mono ?_;rintro e w4 ⟨r4,rfl,dK,eH⟩;replace S:=S.step dK eH;clear dK eH;cases r4
    ·have y0:=(S.lv 0 rfl).all;have y1:=(S.lv 1 rfl).all;have S9:=(((S.set 0 0 (.slice Ak (zs:List Int).length ck) rfl).set 0 1 (.int .i64 most) rfl).set 0 2 (.slice Aw (ws:List ah).length cw) rfl).set 0 3 (.slice As (qs:List SQ).length ca) rfl;go_wp2_with fail
     obtain ⟨A1,c1,e1,T1⟩:=S9.cO 3 rfl;cases e1;obtain ⟨A2,c2,e2,T2⟩:=T1.cO 4 rfl;cases e2;have T3:=T2.vP 4 5 rfl rfl;exact bodyPost_ret (fK rfl rfl (oK (S9.lv 0 rfl))) rfl ⟨⟨zs,most,ws,(qs).map SQ.s⟩,Ak,ck,Aw,cw,As,ca,(by simp [aN]),vS (qs) dV.out (by have:=bY.out;omega) pV.out Hwl.out nU.out,(((T3.del 5).del 1).del 0).mono (by omega)⟩
    ·replace S:St b (m + 570) w w4 (JR w.heap.size R Z (.slice Ak zs.length ck) most (.slice Aw ws.length cw) (.slice As qs.length ca) Ak zs ws qs):=S.mono (by omega);go_wp2_with fail
     refine (next_any b _ _ _ S.g.s (by omega) (by omega) (by omega)).mono ?_;rintro e w5 ⟨r5,ahO,ahP,rfl,dD,gK⟩;replace S:=S.step dD gK;clear dD gK;obtain rfl | rfl | rfl | rfl | rfl | rfl:r5=0∨r5=1∨r5=2∨r5=3∨r5=4∨r5=5:=by omega
     ·skip
      --@dev
      obtain ⟨L,hL⟩:∃ L,L=w5.heap.size:=⟨_,rfl⟩;obtain ⟨A1,c1,e1,S1⟩:=((S.newAt #[.int .i64 2,.int .i64 1] 3 (L) hL).sQ lY 6 rfl [2,1] rfl rfl (by simp) rfl 2 rfl).cO 6 rfl;cases e1;replace S1:St b (m + 570 + 1) w ((w5).alloc (.cells #[.int .i64 2,.int .i64 1] 3)) (JR w.heap.size R Z (.slice Ak zs.length ck) most (.slice Aw ws.length cw) (.slice As qs.length ca) Ak zs ws qs++[Chunk.sl ay (some ⟨L,0,none⟩) [2,1]]):=S1;obtain ⟨A2,c2,e2,S2⟩:=((S1.newAt #[.int .i64 0] 3 (L + 1) (by rw [hL,World.size_alloc])).sQ lY 7 rfl [0] rfl rfl (by simp) rfl 1 rfl).cO 7 rfl;cases e2;replace S2:St b (m + 570 + 1) w (((w5).alloc (.cells #[.int .i64 2,.int .i64 1] 3)).alloc (.cells #[.int .i64 0] 3)) (JR w.heap.size R Z (.slice Ak zs.length ck) most (.slice Aw ws.length cw) (.slice As qs.length ca) Ak zs ws qs++[Chunk.sl ay (some ⟨L,0,none⟩) [2,1],Chunk.sl ay (some ⟨L + 1,0,none⟩) [0]]):=S2;obtain ⟨A3,c3,e3,S3⟩:=((S2.newAt #[.int .i64 5] 3 (L + 1 + 1) (by rw [hL,World.size_alloc,World.size_alloc])).sQ lY 8 rfl [5] rfl rfl (by simp) rfl 1 rfl).cO 8 rfl;cases e3;replace S3:St b (m + 570 + 1) w ((((w5).alloc (.cells #[.int .i64 2,.int .i64 1] 3)).alloc (.cells #[.int .i64 0] 3)).alloc (.cells #[.int .i64 5] 3)) (JR w.heap.size R Z (.slice Ak zs.length ck) most (.slice Aw ws.length cw) (.slice As qs.length ca) Ak zs ws qs++[Chunk.sl ay (some ⟨L,0,none⟩) [2,1],Chunk.sl ay (some ⟨L + 1,0,none⟩) [0],Chunk.sl ay (some ⟨L + 1 + 1,0,none⟩) [5]]):=S3;obtain ⟨A4,c4,e4,S4⟩:=((S3.newAt #[.int .i64 1,.int .i64 1] 3 (L + 1 + 1 + 1) (by rw [hL,World.size_alloc,World.size_alloc,World.size_alloc])).sQ lY 9 rfl [1,1] rfl rfl (by simp) rfl 2 rfl).cO 9 rfl
      cases e4;replace S4:St b (m + 570 + 1) w (((((w5).alloc (.cells #[.int .i64 2,.int .i64 1] 3)).alloc (.cells #[.int .i64 0] 3)).alloc (.cells #[.int .i64 5] 3)).alloc (.cells #[.int .i64 1,.int .i64 1] 3)) (JR w.heap.size R Z (.slice Ak zs.length ck) most (.slice Aw ws.length cw) (.slice As qs.length ca) Ak zs ws qs++[Chunk.sl ay (some ⟨L,0,none⟩) [2,1],Chunk.sl ay (some ⟨L + 1,0,none⟩) [0],Chunk.sl ay (some ⟨L + 1 + 1,0,none⟩) [5],Chunk.sl ay (some ⟨L + 1 + 1 + 1,0,none⟩) [1,1]]):=S4;have S5:=S4.newAt #[.slice none 0 0,.slice (some ⟨L,0,none⟩) 2 2,.slice (some ⟨L + 1,0,none⟩) 1 1,.slice (some ⟨L + 1 + 1,0,none⟩) 1 1,.slice (some ⟨L + 1 + 1 + 1,0,none⟩) 2 2] 22 (L + 1 + 1 + 1 + 1) (by rw [hL,World.size_alloc,World.size_alloc,World.size_alloc,World.size_alloc]);replace S5:St b (m + 570 + 1) w ((((((w5).alloc (.cells #[.int .i64 2,.int .i64 1] 3)).alloc (.cells #[.int .i64 0] 3)).alloc (.cells #[.int .i64 5] 3)).alloc (.cells #[.int .i64 1,.int .i64 1] 3)).alloc (.cells #[.slice none 0 0,.slice (some ⟨L,0,none⟩) 2 2,.slice (some ⟨L + 1,0,none⟩) 1 1,.slice (some ⟨L + 1 + 1,0,none⟩) 1 1,.slice (some ⟨L + 1 + 1 + 1,0,none⟩) 2 2] 22)) (JR w.heap.size R Z (.slice Ak zs.length ck) most (.slice Aw ws.length cw) (.slice As qs.length ca) Ak zs ws qs++[Chunk.sl ay (some ⟨L,0,none⟩) [2,1],Chunk.sl ay (some ⟨L + 1,0,none⟩) [0],Chunk.sl ay (some ⟨L + 1 + 1,0,none⟩) [5],Chunk.sl ay (some ⟨L + 1 + 1 + 1,0,none⟩) [1,1],.loc (L + 1 + 1 + 1 + 1) #[.slice none 0 0,.slice (some ⟨L,0,none⟩) 2 2,.slice (some ⟨L + 1,0,none⟩) 1 1,.slice (some ⟨L + 1 + 1,0,none⟩) 1 1,.slice (some ⟨L + 1 + 1 + 1,0,none⟩) 2 2] 22]):=S5
      clear S S1 S2 S3 S4;have S:=S5;clear S5;go_wp2_with fail
      rw [← hL];clear hL;generalize (((((w5).alloc (.cells #[.int .i64 2,.int .i64 1] 3)).alloc (.cells #[.int .i64 0] 3)).alloc (.cells #[.int .i64 5] 3)).alloc (.cells #[.int .i64 1,.int .i64 1] 3)).alloc (.cells #[.slice none 0 0,.slice (some ⟨L,0,none⟩) 2 2,.slice (some ⟨L + 1,0,none⟩) 1 1,.slice (some ⟨L + 1 + 1,0,none⟩) 1 1,.slice (some ⟨L + 1 + 1 + 1,0,none⟩) 2 2] 22)=w6 at *;go_wp2_with fail
      refine (next_any b _ _ _ S.g.s (by omega) (by omega) (by omega)).mono ?_;rintro e w7 ⟨r7,ami,amj,rfl,iK,lW⟩;replace S:=S.step iK lW;clear iK lW;obtain rfl | rfl | rfl | rfl | rfl:r7=0∨r7=1∨r7=2∨r7=3∨r7=4:=by omega
      ·have l0:=(S.lv 10 rfl).all;have x0:=(S.lv 1 rfl).all;go_upto_region 27 with fail
       clear l0 x0;have hSl:Sl ay (bT w.heap.size (JR w.heap.size R Z (.slice Ak zs.length ck) most (.slice Aw ws.length cw) (.slice As qs.length ca) Ak zs ws qs)) w7 none []:=Sl.nil;replace S:St b (m + 570 + 1 + 1) w w7 (JR w.heap.size R Z (.slice Ak zs.length ck) most (.slice Aw ws.length cw) (.slice As qs.length ca) Ak zs ws qs):=S.left;have S2:=(S.turn 2 rfl (.sl ay none []) rfl hSl).set 1 0 (.slice none 0 0) rfl;clear S hSl;generalize w7.setCell ⟨Z,0,none⟩ (.slice none 0 0)=w8 at *;have S:St b (m + 580) w w8 (JR w.heap.size R Z (.slice none ([]:List Int).length 0) most (.slice Aw ws.length cw) (.slice As qs.length ca) none [] ws qs):=St.mono (m:=m + 570 + 1 + 1) S2 (by omega);clear S2;replace pV:Hid (([]:List Int).length≤4):=by show _≤_;decide
       have y0:=(S.lv 0 rfl).all;have y1:=(S.lv 1 rfl).all;have S9:=(((S.set 0 0 (.slice none ([]:List Int).length 0) rfl).set 0 1 (.int .i64 most) rfl).set 0 2 (.slice Aw (ws:List ah).length cw) rfl).set 0 3 (.slice As (qs:List SQ).length ca) rfl;go_wp2_with fail
       obtain ⟨A1,c1,e1,T1⟩:=S9.cO 3 rfl;cases e1;obtain ⟨A2,c2,e2,T2⟩:=T1.cO 4 rfl;cases e2;have T3:=T2.vP 4 5 rfl rfl;exact bodyPost_ret (fK rfl rfl (oK (S9.lv 0 rfl))) rfl ⟨⟨[],most,ws,(qs).map SQ.s⟩,none,0,Aw,cw,As,ca,(by simp [aN]),vS (qs) dV.out (by have:=bY.out;omega) pV.out Hwl.out nU.out,(((T3.del 5).del 1).del 0).mono (by omega)⟩
      ·have l0:=(S.lv 10 rfl).all;have x0:=(S.lv 1 rfl).all;go_upto_region 27 with fail
       clear l0 x0;have hSl:Sl ay (bT w.heap.size (JR w.heap.size R Z (.slice Ak zs.length ck) most (.slice Aw ws.length cw) (.slice As qs.length ca) Ak zs ws qs)) w7 (some ⟨L,0,none⟩) [2,1]:=(S.slc 6 rfl).mono (fun _ _ h=>yS h);replace S:St b (m + 570 + 1 + 1) w w7 (JR w.heap.size R Z (.slice Ak zs.length ck) most (.slice Aw ws.length cw) (.slice As qs.length ca) Ak zs ws qs):=S.left;have S2:=(S.turn 2 rfl (.sl ay (some ⟨L,0,none⟩) [2,1]) rfl hSl).set 1 0 (.slice (some ⟨L,0,none⟩) 2 2) rfl;clear S hSl;generalize w7.setCell ⟨Z,0,none⟩ (.slice (some ⟨L,0,none⟩) 2 2)=w8 at *;have S:St b (m + 580) w w8 (JR w.heap.size R Z (.slice (some ⟨L,0,none⟩) ([2,1]:List Int).length 2) most (.slice Aw ws.length cw) (.slice As qs.length ca) (some ⟨L,0,none⟩) [2,1] ws qs):=St.mono (m:=m + 570 + 1 + 1) S2 (by omega);clear S2;replace pV:Hid (([2,1]:List Int).length≤4):=by show _≤_;decide
       have y0:=(S.lv 0 rfl).all;have y1:=(S.lv 1 rfl).all;have S9:=(((S.set 0 0 (.slice (some ⟨L,0,none⟩) ([2,1]:List Int).length 2) rfl).set 0 1 (.int .i64 most) rfl).set 0 2 (.slice Aw (ws:List ah).length cw) rfl).set 0 3 (.slice As (qs:List SQ).length ca) rfl;go_wp2_with fail
       obtain ⟨A1,c1,e1,T1⟩:=S9.cO 3 rfl;cases e1;obtain ⟨A2,c2,e2,T2⟩:=T1.cO 4 rfl;cases e2;have T3:=T2.vP 4 5 rfl rfl;exact bodyPost_ret (fK rfl rfl (oK (S9.lv 0 rfl))) rfl ⟨⟨[2,1],most,ws,(qs).map SQ.s⟩,(some ⟨L,0,none⟩),2,Aw,cw,As,ca,(by simp [aN]),vS (qs) dV.out (by have:=bY.out;omega) pV.out Hwl.out nU.out,(((T3.del 5).del 1).del 0).mono (by omega)⟩
      ·have l0:=(S.lv 10 rfl).all;have x0:=(S.lv 1 rfl).all;go_upto_region 27 with fail
       clear l0 x0;have hSl:Sl ay (bT w.heap.size (JR w.heap.size R Z (.slice Ak zs.length ck) most (.slice Aw ws.length cw) (.slice As qs.length ca) Ak zs ws qs)) w7 (some ⟨L + 1,0,none⟩) [0]:=(S.slc 7 rfl).mono (fun _ _ h=>yS h);replace S:St b (m + 570 + 1 + 1) w w7 (JR w.heap.size R Z (.slice Ak zs.length ck) most (.slice Aw ws.length cw) (.slice As qs.length ca) Ak zs ws qs):=S.left;have S2:=(S.turn 2 rfl (.sl ay (some ⟨L + 1,0,none⟩) [0]) rfl hSl).set 1 0 (.slice (some ⟨L + 1,0,none⟩) 1 1) rfl;clear S hSl;generalize w7.setCell ⟨Z,0,none⟩ (.slice (some ⟨L + 1,0,none⟩) 1 1)=w8 at *;have S:St b (m + 580) w w8 (JR w.heap.size R Z (.slice (some ⟨L + 1,0,none⟩) ([0]:List Int).length 1) most (.slice Aw ws.length cw) (.slice As qs.length ca) (some ⟨L + 1,0,none⟩) [0] ws qs):=St.mono (m:=m + 570 + 1 + 1) S2 (by omega);clear S2;replace pV:Hid (([0]:List Int).length≤4):=by show _≤_;decide
       have y0:=(S.lv 0 rfl).all;have y1:=(S.lv 1 rfl).all;have S9:=(((S.set 0 0 (.slice (some ⟨L + 1,0,none⟩) ([0]:List Int).length 1) rfl).set 0 1 (.int .i64 most) rfl).set 0 2 (.slice Aw (ws:List ah).length cw) rfl).set 0 3 (.slice As (qs:List SQ).length ca) rfl;go_wp2_with fail
       obtain ⟨A1,c1,e1,T1⟩:=S9.cO 3 rfl;cases e1;obtain ⟨A2,c2,e2,T2⟩:=T1.cO 4 rfl;cases e2;have T3:=T2.vP 4 5 rfl rfl;exact bodyPost_ret (fK rfl rfl (oK (S9.lv 0 rfl))) rfl ⟨⟨[0],most,ws,(qs).map SQ.s⟩,(some ⟨L + 1,0,none⟩),1,Aw,cw,As,ca,(by simp [aN]),vS (qs) dV.out (by have:=bY.out;omega) pV.out Hwl.out nU.out,(((T3.del 5).del 1).del 0).mono (by omega)⟩
      ·have l0:=(S.lv 10 rfl).all;have x0:=(S.lv 1 rfl).all;go_upto_region 27 with fail
       clear l0 x0;have hSl:Sl ay (bT w.heap.size (JR w.heap.size R Z (.slice Ak zs.length ck) most (.slice Aw ws.length cw) (.slice As qs.length ca) Ak zs ws qs)) w7 (some ⟨L + 1 + 1,0,none⟩) [5]:=(S.slc 8 rfl).mono (fun _ _ h=>yS h);replace S:St b (m + 570 + 1 + 1) w w7 (JR w.heap.size R Z (.slice Ak zs.length ck) most (.slice Aw ws.length cw) (.slice As qs.length ca) Ak zs ws qs):=S.left;have S2:=(S.turn 2 rfl (.sl ay (some ⟨L + 1 + 1,0,none⟩) [5]) rfl hSl).set 1 0 (.slice (some ⟨L + 1 + 1,0,none⟩) 1 1) rfl;clear S hSl;generalize w7.setCell ⟨Z,0,none⟩ (.slice (some ⟨L + 1 + 1,0,none⟩) 1 1)=w8 at *;have S:St b (m + 580) w w8 (JR w.heap.size R Z (.slice (some ⟨L + 1 + 1,0,none⟩) ([5]:List Int).length 1) most (.slice Aw ws.length cw) (.slice As qs.length ca) (some ⟨L + 1 + 1,0,none⟩) [5] ws qs):=St.mono (m:=m + 570 + 1 + 1) S2 (by omega);clear S2;replace pV:Hid (([5]:List Int).length≤4):=by show _≤_;decide
       have y0:=(S.lv 0 rfl).all;have y1:=(S.lv 1 rfl).all;have S9:=(((S.set 0 0 (.slice (some ⟨L + 1 + 1,0,none⟩) ([5]:List Int).length 1) rfl).set 0 1 (.int .i64 most) rfl).set 0 2 (.slice Aw (ws:List ah).length cw) rfl).set 0 3 (.slice As (qs:List SQ).length ca) rfl;go_wp2_with fail
       obtain ⟨A1,c1,e1,T1⟩:=S9.cO 3 rfl;cases e1;obtain ⟨A2,c2,e2,T2⟩:=T1.cO 4 rfl;cases e2;have T3:=T2.vP 4 5 rfl rfl;exact bodyPost_ret (fK rfl rfl (oK (S9.lv 0 rfl))) rfl ⟨⟨[5],most,ws,(qs).map SQ.s⟩,(some ⟨L + 1 + 1,0,none⟩),1,Aw,cw,As,ca,(by simp [aN]),vS (qs) dV.out (by have:=bY.out;omega) pV.out Hwl.out nU.out,(((T3.del 5).del 1).del 0).mono (by omega)⟩
      ·have l0:=(S.lv 10 rfl).all;have x0:=(S.lv 1 rfl).all;go_upto_region 27 with fail
       clear l0 x0;have hSl:Sl ay (bT w.heap.size (JR w.heap.size R Z (.slice Ak zs.length ck) most (.slice Aw ws.length cw) (.slice As qs.length ca) Ak zs ws qs)) w7 (some ⟨L + 1 + 1 + 1,0,none⟩) [1,1]:=(S.slc 9 rfl).mono (fun _ _ h=>yS h);replace S:St b (m + 570 + 1 + 1) w w7 (JR w.heap.size R Z (.slice Ak zs.length ck) most (.slice Aw ws.length cw) (.slice As qs.length ca) Ak zs ws qs):=S.left;have S2:=(S.turn 2 rfl (.sl ay (some ⟨L + 1 + 1 + 1,0,none⟩) [1,1]) rfl hSl).set 1 0 (.slice (some ⟨L + 1 + 1 + 1,0,none⟩) 2 2) rfl;clear S hSl;generalize w7.setCell ⟨Z,0,none⟩ (.slice (some ⟨L + 1 + 1 + 1,0,none⟩) 2 2)=w8 at *;have S:St b (m + 580) w w8 (JR w.heap.size R Z (.slice (some ⟨L + 1 + 1 + 1,0,none⟩) ([1,1]:List Int).length 2) most (.slice Aw ws.length cw) (.slice As qs.length ca) (some ⟨L + 1 + 1 + 1,0,none⟩) [1,1] ws qs):=St.mono (m:=m + 570 + 1 + 1) S2 (by omega);clear S2;replace pV:Hid (([1,1]:List Int).length≤4):=by show _≤_;decide
       have y0:=(S.lv 0 rfl).all;have y1:=(S.lv 1 rfl).all;have S9:=(((S.set 0 0 (.slice (some ⟨L + 1 + 1 + 1,0,none⟩) ([1,1]:List Int).length 2) rfl).set 0 1 (.int .i64 most) rfl).set 0 2 (.slice Aw (ws:List ah).length cw) rfl).set 0 3 (.slice As (qs:List SQ).length ca) rfl;go_wp2_with fail
       obtain ⟨A1,c1,e1,T1⟩:=S9.cO 3 rfl;cases e1;obtain ⟨A2,c2,e2,T2⟩:=T1.cO 4 rfl;cases e2;have T3:=T2.vP 4 5 rfl rfl;exact bodyPost_ret (fK rfl rfl (oK (S9.lv 0 rfl))) rfl ⟨⟨[1,1],most,ws,(qs).map SQ.s⟩,(some ⟨L + 1 + 1 + 1,0,none⟩),2,Aw,cw,As,ca,(by simp [aN]),vS (qs) dV.out (by have:=bY.out;omega) pV.out Hwl.out nU.out,(((T3.del 5).del 1).del 0).mono (by omega)⟩
      --@xB
     ·skip
      --@dev
      go_wp2_with fail
      refine (Du b _ _ _ _ S.g.s (by omega) (by omega) (by omega) (by omega)).mono ?_;rintro e w6 ⟨m6,amk,aml,rfl,Kr,Kt⟩;replace S:=S.step Kr Kt;clear Kr Kt;have l0:=(S.lv 1 rfl).all;have S2:=S.set 1 1 (.int .i64 m6) rfl;go_upto_region 27 with fail
      clear l0 S;generalize w6.setCell ⟨Z,1,none⟩ (.int .i64 m6)=w8 at *;replace S2:St b (m + 580) w w8 (JR w.heap.size R Z (.slice Ak zs.length ck) m6 (.slice Aw ws.length cw) (.slice As qs.length ca) Ak zs ws qs):=S2.mono (by omega);have S:=S2;clear S2;have y0:=(S.lv 0 rfl).all;have y1:=(S.lv 1 rfl).all;have S9:=(((S.set 0 0 (.slice Ak (zs:List Int).length ck) rfl).set 0 1 (.int .i64 m6) rfl).set 0 2 (.slice Aw (ws:List ah).length cw) rfl).set 0 3 (.slice As (qs:List SQ).length ca) rfl;go_wp2_with fail
      obtain ⟨A1,c1,e1,T1⟩:=S9.cO 3 rfl;cases e1;obtain ⟨A2,c2,e2,T2⟩:=T1.cO 4 rfl;cases e2;have T3:=T2.vP 4 5 rfl rfl;exact bodyPost_ret (fK rfl rfl (oK (S9.lv 0 rfl))) rfl ⟨⟨zs,m6,ws,(qs).map SQ.s⟩,Ak,ck,Aw,cw,As,ca,(by simp [aN]),vS (qs) dV.out (by have:=bY.out;omega) pV.out Hwl.out nU.out,(((T3.del 5).del 1).del 0).mono (by omega)⟩;--@xB
     ·have l0:=(S.lv 1 rfl).all;--@dev
      have Hc:=Z9 (ahU Aw ws cw w5 ((S.ow 3 rfl).xR jg) (by have:=Hwl.out;omega));go_wp2_with fail
      refine (Hc.out).mono ?_;rintro e w6 ⟨A2,c2,rfl,M2⟩;have S6:St b (m + 571) w w6 (JR w.heap.size R Z (.slice Ak zs.length ck) most (.slice Aw ws.length cw) (.slice As qs.length ca) Ak zs ws qs++[.own aO w.heap.size 46 (.slice A2 ws.length c2) ws]):=(S.ahY M2).base jg 6 rfl S.g.size;have S7:St b (m + 571) w w6 [.loc R fE 29,.loc Z #[.slice Ak zs.length ck,.int .i64 most,.slice Aw ws.length cw,.slice As qs.length ca] 29,.sl ay Ak zs,.own qX w.heap.size 124 (.slice As qs.length ca) qs,.pU qs,.own aO w.heap.size 46 (.slice A2 ws.length c2) ws]:=S6.del 3;have S8:St b (m + 571) w w6 [.loc R fE 29,.loc Z #[.slice Ak zs.length ck,.int .i64 most,.slice Aw ws.length cw,.slice As qs.length ca] 29,.sl ay Ak zs,.own aO w.heap.size 46 (.slice A2 ws.length c2) ws,.own qX w.heap.size 124 (.slice As qs.length ca) qs,.pU qs] :=
       S7.perm (List.Perm.cons _ (List.Perm.cons _ (List.Perm.cons _ (List.perm_append_comm (l₁:=[Chunk.own qX w.heap.size 124 (.slice As qs.length ca) qs,Chunk.pU qs]) (l₂:=[_])))))
      clear S S6 S7 M2 Hc l0;go_wp2_with fail
      refine (aat b _ _ S8.g.s (by omega) (HP.out.keep S8.g.k hPb) hPb).mono ?_;rintro e w7 ⟨k1,t1,ht1,rfl,hk7,hs7⟩;have S:=S8.step hk7 hs7;have Tt:=Z9 ht1;have hsz:=S.g.size;have ah2:ws.length≤300:=Hwl.out;have z1:=(S.lv 1 rfl).all;clear S8 hk7 hs7 ht1;go_upto_region 27 with (at_builtin;refine S.app 3 rfl Bg rfl _ _ rfl (⟨k1,t1⟩:ah) 1 rfl rfl rfl (Bf ⟨k1,t1⟩) hsz (by omega) (by decide) ?_;intro v' w10 S6;obtain ⟨q2,hq2⟩:∃ q2,ws++[(⟨k1,t1⟩:ah)]=q2:=⟨_,rfl⟩;rw [hq2] at S6;have gQ:=Z9 hq2;clear hq2;obtain ⟨A6,c6,rfl⟩:=(S6.ow 3 rfl).len;have z2:=(S6.lv 1 rfl).all)
      clear z1 z2 S;have S7:=S6.set 1 2 (.slice A6 q2.length c6) rfl;clear S6;generalize w10.setCell ⟨Z,2,none⟩ (.slice A6 q2.length c6)=w8 at *;have S:St b (m + 590) w w8 (JR w.heap.size R Z (.slice Ak zs.length ck) most (.slice A6 q2.length c6) (.slice As qs.length ca) Ak zs q2 qs):=St.mono (m:=m + 571 + 9) S7 (by omega);clear S7;have ah3:Hid (q2.length≤300):=by show _≤_;rw [← gQ.out];simp;omega
      have ah4:Hid (∀ x∈q2,x.t.size≤10000):=fun x hx=>by
       rw [← gQ.out] at hx;rcases List.mem_append.1 hx with hx | hx
       ·exact nU.out x hx
       ·rw [List.mem_singleton.1 hx];exact Tt.out
      clear Hwl nU;have Hwl:=ah3;have nU:=ah4;have y0:=(S.lv 0 rfl).all;have y1:=(S.lv 1 rfl).all;have S9:=(((S.set 0 0 (.slice Ak (zs:List Int).length ck) rfl).set 0 1 (.int .i64 most) rfl).set 0 2 (.slice A6 (q2:List ah).length c6) rfl).set 0 3 (.slice As (qs:List SQ).length ca) rfl;go_wp2_with fail
      obtain ⟨A1,c1,e1,T1⟩:=S9.cO 3 rfl;cases e1;obtain ⟨A2,c2,e2,T2⟩:=T1.cO 4 rfl;cases e2;have T3:=T2.vP 4 5 rfl rfl;exact bodyPost_ret (fK rfl rfl (oK (S9.lv 0 rfl))) rfl ⟨⟨zs,most,q2,(qs).map SQ.s⟩,Ak,ck,A6,c6,As,ca,(by simp [aN]),vS (qs) dV.out (by have:=bY.out;omega) pV.out Hwl.out nU.out,(((T3.del 5).del 1).del 0).mono (by omega)⟩;--@xB
     ·go_wp2_with fail
      --@dev
      refine Nu 11 (fun wc=>wc.cell? ⟨Z,3,none⟩=some (.slice As qs.length ca)) [.q 0,.q 1,.q 2,.q 5,.e 3,.e 4,.e 6,.q 7,.e 8,.e 9,.q 10,.e 11] (by kernel_rfl) (by kernel_rfl) (fun _ hd=>((S.below (hd.below _)).lv 1 rfl).cell 3 _ rfl) (fun KK aF wd hd=>?_);replace S:=S.below (hd.below _);clear hd;refine yH ?_;refine aa6 (.slice As qs.length ca) rfl rfl rfl rfl (fun _=>rfl) (fun _ h=>h) ?_;refine yH ?_;refine vC rfl rfl (fun K hK=>?_);go_wp2_with fail
      have qE:∀ o,(wd.alloc o).cell? ⟨Z,3,none⟩=some (.slice As qs.length ca):=fun o=>((S.alloc o).lv 1 rfl).cell 3 _ rfl;refine ⟨by first | exact qE _ | exact fun _=>qE _,?_⟩;clear qE;refine vC rfl rfl (fun K hK=>?_);go_wp2_with fail
      refine (one_le b _ _ _ (10) S.g.s (by first | rfl | simp) (by first | rfl | simp) (Jj (by decide)) (by simp) (by simp) (by omega)).mono ?_;rintro e w6 ⟨nm,Nz,rfl,Kr,Kt⟩;replace S:=S.step Kr Kt;clear Kr Kt;have xC:w6.cell? ⟨Z,3,none⟩=some (.slice As qs.length ca):=(S.lv 1 rfl).cell 3 _ rfl;go_wp2_with fail
      refine ⟨by first | exact xC | exact fun _=>xC,?_⟩;clear xC;refine vC rfl rfl (fun K hK=>?_);go_wp2_with fail
      refine (Du b _ _ _ _ S.g.s (by omega) (by omega) (by omega) (by omega)).mono ?_;rintro e w7 ⟨how,ah0,ah1,rfl,iK,lW⟩;replace S:=S.step iK lW;clear iK lW;have xC:w7.cell? ⟨Z,3,none⟩=some (.slice As qs.length ca):=(S.lv 1 rfl).cell 3 _ rfl;go_wp2_with fail
      refine ⟨by first | exact xC | exact fun _=>xC,?_⟩;clear xC;refine yH ?_;replace S:=S.Eh 5 rfl (⟨⟨nm,how,[]⟩,none,0⟩:SQ) (Z5 _) Sl.nil;have hsz:=S.g.size;have ah5:qs.length≤200:=by have:=bY.out;omega
      have qE:∀ o,(w7.alloc o).cell? ⟨Z,3,none⟩=some (.slice As qs.length ca):=fun o=>((S.alloc o).lv 1 rfl).cell 3 _ rfl;refine vC rfl rfl (fun K hK=>?_);go_wp2_with fail
      first | refine ⟨qE _,?_⟩ | refine ⟨fun _=>qE _,?_⟩ | skip
      clear qE;refine vC rfl rfl (fun K hK=>?_);refine S.app 4 rfl Ee rfl _ _ rfl (⟨⟨nm,how,[]⟩,none,0⟩:SQ) 1 rfl rfl rfl (Ef (⟨⟨nm,how,[]⟩,none,0⟩:SQ)) hsz (by omega) (by decide) ?_;intro v' w10 S6;obtain ⟨q2,hq2⟩:∃ q2,qs++[(⟨⟨nm,how,[]⟩,none,0⟩:SQ)]=q2:=⟨_,rfl⟩;rw [hq2] at S6;have gQ:=Z9 hq2;clear hq2;obtain ⟨A6,c6,rfl⟩:=(S6.ow 4 rfl).len;have Ei:w10.cell? ⟨Z,3,none⟩=some (.slice As qs.length ca):=(S6.lv 1 rfl).cell 3 _ rfl;have TF:w10.frozen? ⟨Z,3,none⟩=false:=(S6.lv 1 rfl).free 3;go_wp2_with fail
      first | refine ⟨Ei,?_⟩ | refine ⟨fun _=>Ei,?_⟩ | skip
      refine yH ?_;refine vC rfl rfl (fun K hK=>?_);go_wp2_with fail
      refine ⟨fun h=>absurd rfl h,?_⟩;refine Ny ?_;simp only [Exit.then];refine aF _ _ ?_;have S7:=S6.set 1 3 (.slice A6 q2.length c6) rfl;clear S S6 Ei TF hsz;generalize w10.setCell ⟨Z,3,none⟩ (.slice A6 q2.length c6)=pW at *;have S:St b (m + 700) w pW (JR w.heap.size R Z (.slice Ak zs.length ck) most (.slice Aw ws.length cw) (.slice A6 q2.length c6) Ak zs ws q2):=St.mono S7 (by first | omega | (show _≤_;simp;omega));clear S7;have Ot:Hid (q2.length≤7):=by show _≤_;have:=bY.out;rw [← gQ.out];simp;omega
      have TG:Hid (∀ q∈q2,yR q):=fun q hq=>by
       rw [← gQ.out] at hq;rcases List.mem_append.1 hq with hq | hq
       ·exact dV.out q hq
       ·rw [List.mem_singleton.1 hq];exact ⟨(by show nm.size≤100;omega),ZN _,fun x hx=>by cases hx⟩
      clear bY dV;have bY:=Ot;have dV:=TG;go_upto_region 27 with fail
      have y0:=(S.lv 0 rfl).all;have y1:=(S.lv 1 rfl).all;have S9:=(((S.set 0 0 (.slice Ak (zs:List Int).length ck) rfl).set 0 1 (.int .i64 most) rfl).set 0 2 (.slice Aw (ws:List ah).length cw) rfl).set 0 3 (.slice A6 (q2:List SQ).length c6) rfl;go_wp2_with fail
      obtain ⟨A1,c1,e1,T1⟩:=S9.cO 3 rfl;cases e1;obtain ⟨A2,c2,e2,T2⟩:=T1.cO 4 rfl;cases e2;have T3:=T2.vP 4 5 rfl rfl;exact bodyPost_ret (fK rfl rfl (oK (S9.lv 0 rfl))) rfl ⟨⟨zs,most,ws,(q2).map SQ.s⟩,Ak,ck,Aw,cw,A6,c6,(by simp [aN]),vS (q2) dV.out (by have:=bY.out;omega) pV.out Hwl.out nU.out,(((T3.del 5).del 1).del 0).mono (by omega)⟩;--@xB
     ·go_wp2_with fail
      have hZb:Z≠b:=by have:=S.ge 1 rfl;have:=S.b0;omega
      refine Nu 15 (fun wc=>wc.cell? ⟨Z,3,none⟩=some (.slice As qs.length ca)) [.q 0,.q 1,.q 2,.q 4,.q 7,.f [3,5,6,8,9,10,11],.e 12,.e 13,.q 14,.e 15] (by kernel_rfl) (by kernel_rfl) (fun _ hd=>((S.below (hd.below _)).lv 1 rfl).cell 3 _ rfl) (fun KK aF wd hd=>?_);replace S:=S.below (hd.below _);have hbd:b < wd.heap.size:=Nat.lt_of_lt_of_le S.b0 S.g.size;clear hd;refine yH ?_;refine aa6 (.slice As qs.length ca) rfl rfl rfl rfl (fun _=>rfl) (fun _ h=>h) ?_;refine yH ?_;refine Rk [(3,114,[]),(5,116,[]),(6,117,[(3,114),(5,116)]),(8,119,[]),(9,120,[(6,117),(8,119)]),(10,121,[(6,117),(9,120)]),(11,122,[(3,114),(10,121)])] rfl (by kernel_rfl) (fun c w'=>G b (m + 580 + c) wd w') (SK b) (Om wd.heap.size) ((G.start S.g.s).mono (by omega)) (fun c w' h=>((S.lv 1 rfl).keep h.k hZb).cell 3 _ rfl) (fun x _ v w w' k h=>ahZ hbd x.1 v w w' k h) (by rfl) ?_ ?_
      ·refine all_cons ?_ (all_cons ?_ (all_cons ?_ (all_cons ?_ (all_cons ?_ (all_cons ?_ (all_cons ?_ all_nil))))));all_goals (intro o ho c ν w2 hc hinv hp;cases ho;simp only [xg,Zk,List.foldl_nil];simp only [ZV,ZO] at hc)
       ·go_wp2_with fail
        refine (range_any b _ _ _ _ hinv.s (by omega) (by omega) (by omega) (by omega)).mono ?_;rintro e w3 ⟨r,Nv,Nw,rfl,bF,dJ⟩;go_wp2_with fail
        refine ⟨_,rfl,bF,(hinv.step bF dJ).mono (by omega),?_⟩;exact ⟨r,rfl,by omega,by omega⟩
       ·go_wp2_with fail
        first | exact ⟨_,rfl,(SK.refl _ _).alloc _,(hinv.alloc _).mono (by omega),w2.heap.size,rfl,LV.new _ _ _ _ rfl,hinv.size⟩ | exact ⟨(SK.refl _ _).alloc _,(hinv.alloc _).mono (by omega),w2.heap.size,rfl,LV.new _ _ _ _ rfl,hinv.size⟩
       ·have h7:vT wd.heap.size [⟨#[97]⟩,⟨#[66]⟩] (ν 5) w2:=hp (5,116) (by simp);go_wp2_with fail
        refine (h7.one hinv.s hbd (by simp) (by simp) (by omega)).mono ?_;rintro e w3 ⟨r,hr,rfl,bF,dJ⟩;go_wp2_with fail
        refine ⟨_,rfl,bF,(hinv.step bF dJ).mono (by omega),?_⟩;refine ⟨r,rfl,?_⟩;simp only [YU,YI,or_false] at hr;rcases hr with rfl | rfl <;> decide
       ·go_wp2_with fail
        first | exact ⟨_,rfl,(SK.refl _ _).alloc _,(hinv.alloc _).mono (by omega),w2.heap.size,rfl,LV.new _ _ _ _ rfl,hinv.size⟩ | exact ⟨(SK.refl _ _).alloc _,(hinv.alloc _).mono (by omega),w2.heap.size,rfl,LV.new _ _ _ _ rfl,hinv.size⟩
       ·have h7:vT wd.heap.size [⟨#[97]⟩,⟨#[98]⟩] (ν 8) w2:=hp (8,119) (by simp);go_wp2_with fail
        refine (h7.one hinv.s hbd (by simp) (by simp) (by omega)).mono ?_;rintro e w3 ⟨r,hr,rfl,bF,dJ⟩;go_wp2_with fail
        refine ⟨_,rfl,bF,(hinv.step bF dJ).mono (by omega),?_⟩;refine ⟨r,rfl,?_⟩;simp only [YU,YI,or_false] at hr;rcases hr with rfl | rfl <;> decide
       ·obtain ⟨s1,e1,h1⟩:=(hp (6,117) (by simp):IsS 10 (ν 6));obtain ⟨s2,e2,h2⟩:=(hp (9,120) (by simp):IsS 10 (ν 9));simp only [e1,e2];go_wp2_with fail
        first | exact ⟨_,rfl,(SK.refl _ _).alloc _,(hinv.alloc _).mono (by omega),s1,s2,h1,h2,w2.heap.size,rfl,LV.new _ _ _ _ rfl,hinv.size⟩ | exact ⟨(SK.refl _ _).alloc _,(hinv.alloc _).mono (by omega),s1,s2,h1,h2,w2.heap.size,rfl,LV.new _ _ _ _ rfl,hinv.size⟩
       ·obtain ⟨how,e1,_⟩:=(hp (3,114) (by simp):qU 1 7 (ν 3));have h2:F7 wd.heap.size (ν 10) w2:=hp (10,121) (by simp);obtain ⟨s1,s2,hs1,hs2,blk,e2,lv,hB⟩:=h2;simp only [e1,e2,ZV,ZO];go_wp2_with fail
        first | exact ⟨_,rfl,SK.refl _ _,hinv.mono (by omega),how,_,rfl,s1,s2,hs1,hs2,blk,rfl,lv,hB⟩ | exact ⟨SK.refl _ _,hinv.mono (by omega),how,_,rfl,s1,s2,hs1,hs2,blk,rfl,lv,hB⟩
      ·intro ν w2 hinv hf;obtain ⟨how,u,e11,s1,s2,hs1,hs2,hl⟩:=(hf (11,122,[(3,114),(10,121)]) (by simp):aa5 wd.heap.size (ν 11) w2);have hwd:=S.g.size;have hst:Ku wd.heap.size u [s1,s2] w2:=.inr hl;have S2:=S.call hinv (.own fB w.heap.size 9 u [s1,s2]) (hst.own hwd (by simp)) (fun k e=>hst.ge k e);obtain ⟨A2,c2,e2,S3⟩:=S2.cO 6 rfl;subst e2;have hc2:([s1,s2]:List ByteArray).length≤c2:=by
        obtain ⟨blk,e,_,_⟩:=hl;simp only [Value.slice.injEq] at e;omega
       have S4:=S3.Eh 5 rfl (⟨⟨⟨#[122,111,111]⟩,how,[s1,s2]⟩,A2,c2⟩:SQ) hc2 (S3.slc 6 rfl);replace S:St b (m + 590) w w2 [.loc R fE 29,.loc Z #[.slice Ak zs.length ck,.int .i64 most,.slice Aw ws.length cw,.slice As qs.length ca] 29,.sl ay Ak zs,.own aO w.heap.size 46 (.slice Aw ws.length cw) ws,.own qX w.heap.size 124 (.slice As qs.length ca) qs,.pU (qs++[⟨⟨⟨#[122,111,111]⟩,how,[s1,s2]⟩,A2,c2⟩])]:=St.mono (m:=m + 580 + 7) (S4.del 6) (by omega);simp only [xg,Zt,List.map_nil,Zk,List.foldl_nil,e11];clear hf hinv e11 hl hst S2 S3 S4;generalize ν 3=q3;generalize ν 5=q5;generalize ν 6=q6;generalize ν 8=q8;generalize ν 9=q9;generalize ν 10=q10;have hsz:=S.g.size;have ah5:qs.length≤200:=by have:=bY.out;omega
       have qE:∀ o,(w2.alloc o).cell? ⟨Z,3,none⟩=some (.slice As qs.length ca):=fun o=>((S.alloc o).lv 1 rfl).cell 3 _ rfl;refine vC rfl rfl (fun K hK=>?_);go_wp2_with fail
       first | refine ⟨qE _,?_⟩ | refine ⟨fun _=>qE _,?_⟩ | skip
       clear qE;refine vC rfl rfl (fun K hK=>?_);refine S.app 4 rfl Ee rfl _ _ rfl (⟨⟨⟨#[122,111,111]⟩,how,[s1,s2]⟩,A2,c2⟩:SQ) 1 rfl rfl rfl (Ef (⟨⟨⟨#[122,111,111]⟩,how,[s1,s2]⟩,A2,c2⟩:SQ)) hsz (by omega) (by decide) ?_;intro v' w10 S6;obtain ⟨q2,hq2⟩:∃ q2,qs++[(⟨⟨⟨#[122,111,111]⟩,how,[s1,s2]⟩,A2,c2⟩:SQ)]=q2:=⟨_,rfl⟩;rw [hq2] at S6;have gQ:=Z9 hq2;clear hq2;obtain ⟨A6,c6,rfl⟩:=(S6.ow 4 rfl).len;have Ei:w10.cell? ⟨Z,3,none⟩=some (.slice As qs.length ca):=(S6.lv 1 rfl).cell 3 _ rfl;have TF:w10.frozen? ⟨Z,3,none⟩=false:=(S6.lv 1 rfl).free 3;go_wp2_with fail
       first | refine ⟨Ei,?_⟩ | refine ⟨fun _=>Ei,?_⟩ | skip
       refine yH ?_;refine vC rfl rfl (fun K hK=>?_);go_wp2_with fail
       refine ⟨fun h=>absurd rfl h,?_⟩;refine Ny ?_;simp only [Exit.then];refine aF _ _ ?_;have S7:=S6.set 1 3 (.slice A6 q2.length c6) rfl;clear S S6 Ei TF hsz;generalize w10.setCell ⟨Z,3,none⟩ (.slice A6 q2.length c6)=pW at *;have S:St b (m + 700) w pW (JR w.heap.size R Z (.slice Ak zs.length ck) most (.slice Aw ws.length cw) (.slice A6 q2.length c6) Ak zs ws q2):=St.mono S7 (by first | omega | (show _≤_;simp;omega));clear S7;have Ot:Hid (q2.length≤7):=by show _≤_;have:=bY.out;rw [← gQ.out];simp;omega
       have TG:Hid (∀ q∈q2,yR q):=fun q hq=>by
        rw [← gQ.out] at hq;rcases List.mem_append.1 hq with hq | hq
        ·exact dV.out q hq
        ·rw [List.mem_singleton.1 hq];exact ⟨(by show (⟨#[122,111,111]⟩:ByteArray).size≤100;decide),(by show ([s1,s2]:List ByteArray).length≤3;simp),(fun x hx=>by simp only [YU,YI,or_false] at hx;rcases hx with rfl | rfl <;> omega)⟩
       clear bY dV;have bY:=Ot;have dV:=TG;go_upto_region 27 with fail
       have y0:=(S.lv 0 rfl).all;have y1:=(S.lv 1 rfl).all;have S9:=(((S.set 0 0 (.slice Ak (zs:List Int).length ck) rfl).set 0 1 (.int .i64 most) rfl).set 0 2 (.slice Aw (ws:List ah).length cw) rfl).set 0 3 (.slice A6 (q2:List SQ).length c6) rfl;go_wp2_with fail
       obtain ⟨A1,c1,e1,T1⟩:=S9.cO 3 rfl;cases e1;obtain ⟨A2,c2,e2,T2⟩:=T1.cO 4 rfl;cases e2;have T3:=T2.vP 4 5 rfl rfl;exact bodyPost_ret (fK rfl rfl (oK (S9.lv 0 rfl))) rfl ⟨⟨zs,most,ws,(q2).map SQ.s⟩,Ak,ck,Aw,cw,A6,c6,(by simp [aN]),vS (q2) dV.out (by have:=bY.out;omega) pV.out Hwl.out nU.out,(((T3.del 5).del 1).del 0).mono (by omega)⟩
     ·go_wp2_with fail
      --@dev
      go_loopw [59] (fun i wr=>∃ (j:Nat) (Aw:Option Addr) (cw:Nat) (ws:List ah),j≤201∧i=.int .i64 j∧Hid (ws.length≤2 + j)∧Hid (∀ x∈ws,x.t.size≤10000)∧St b (m + 580) w wr (JR w.heap.size R Z (.slice Ak zs.length ck) most (.slice Aw ws.length cw) (.slice As qs.length ca) Ak zs ws qs)) (fun i _=>201 - (intOf i).toNat)
      case atStart=>exact ⟨0,Aw,cw,ws,ZN _,rfl,(by show _≤_;omega),nU,S.mono (by omega)⟩
      case round =>
       clear S nU Hwl hwl;obtain ⟨j,Aw,cw,ws,hj,rfl,TI,nU,S⟩:=hrel;by_cases hj2:j < 201
       ·obtain ⟨pk,pt,hpt,p0,p1⟩:=(HP.out.keep S.g.k hPb) 0 (by omega);have rG:=Z9 hpt;have hsz:=S.g.size;have ah2:ws.length≤300:=by have:=TI.out;omega
        have z1:=(S.lv 1 rfl).all;clear hpt;go_wp2_with (at_builtin;refine S.app 3 rfl Bg rfl _ _ rfl (⟨pk,pt⟩:ah) 1 rfl rfl rfl (Bf ⟨pk,pt⟩) hsz (by omega) (by decide) ?_;intro v' w10 S6;obtain ⟨q2,hq2⟩:∃ q2,ws++[(⟨pk,pt⟩:ah)]=q2:=⟨_,rfl⟩;rw [hq2] at S6;have gQ:=Z9 hq2;clear hq2;obtain ⟨A6,c6,rfl⟩:=(S6.ow 3 rfl).len;have z2:=(S6.lv 1 rfl).all)
        go_roundw
        case rel =>
         refine ⟨j + 1,A6,c6,q2,by omega,by go_num,?_,?_,S6.set 1 2 (.slice A6 q2.length c6) rfl⟩
         ·show _≤_;have:=TI.out
          rw [← gQ.out];simp;omega
         ·intro x hx;rw [← gQ.out] at hx;rcases List.mem_append.1 hx with hx | hx
          ·exact nU.out x hx
          ·rw [List.mem_singleton.1 hx];show pt.size≤10000;have:=rG.out
           omega
        case measure=>simp [intOf];omega
       ·have Hwl:Hid (ws.length≤300):=by show _≤_;have:=TI.out;omega
        go_upto_region 27 with fail
        have y0:=(S.lv 0 rfl).all;have y1:=(S.lv 1 rfl).all;have S9:=(((S.set 0 0 (.slice Ak (zs:List Int).length ck) rfl).set 0 1 (.int .i64 most) rfl).set 0 2 (.slice Aw (ws:List ah).length cw) rfl).set 0 3 (.slice As (qs:List SQ).length ca) rfl;go_wp2_with fail
        obtain ⟨A1,c1,e1,T1⟩:=S9.cO 3 rfl;cases e1;obtain ⟨A2,c2,e2,T2⟩:=T1.cO 4 rfl;cases e2;have T3:=T2.vP 4 5 rfl rfl;exact bodyPost_ret (fK rfl rfl (oK (S9.lv 0 rfl))) rfl ⟨⟨zs,most,ws,(qs).map SQ.s⟩,Ak,ck,Aw,cw,As,ca,(by simp [aN]),vS (qs) dV.out (by have:=bY.out;omega) pV.out Hwl.out nU.out,(((T3.del 5).del 1).del 0).mono (by omega)⟩
      --@xB
end
end Go.Proofs.YtmkkppknaikjjaaGreatDoor
