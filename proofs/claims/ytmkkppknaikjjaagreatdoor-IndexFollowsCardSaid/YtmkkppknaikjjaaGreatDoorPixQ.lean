/- Several texts in one: Evq, AppN, Clear, CmpLaw, Grew, SortFn, ViaMem. -/
import Derived.Test.YtmkkppknaikjjaaGreatDoorPixE
import Derived.Test.YtmkkppknaikjjaaGreatDoorPixM
import Derived.Laws.CopyOwn
import Derived.Test.YtmkkppknaikjjaaGreatDoorPixV
import Derived.Shelf.SlSortCmp.InsertionK
import Derived.Test.YtmkkppknaikjjaaGreatDoorPixW
import Derived.WalkLawsBesides
import Derived.Sort.Walk0
import Derived.Shelf.SlSortCmp.NoneTotal
import Derived.Test.YtmkkppknaikjjaaGreatDoorPixB
/- Events in memory that may still be turned: their rows, and apart from them their fields, which stay. -/
namespace Go.Proofs.YtmkkppknaikjjaaGreatDoor
section
open Go Go.RowKit
structure EQ where
 e:Evt
 A:Option Addr
 c:Nat
def EQ.cells (q:EQ):List Value:=[.string q.e.id,.string q.e.name,.int .i64 q.e.at',.int .i64 q.e.kind,.string q.e.text,.slice q.A q.e.flds.length q.c]
def FldsOk (M:Nat→Prop)(w:World)(qs:List EQ):Prop:=∀ q∈qs,Sl rFld M w q.A q.e.flds
def Chunk.flds (qs:List EQ):Chunk :=
 ⟨none,fun M w=>FldsOk M w qs,fun k hd _ h q hq=>(h q hq).keep (k.mono hd),fun hm h q hq=>(h q hq).mono (fun k hk e=>(hm k hk e).resolve_right (by simp)),fun _ _ e=>by cases e⟩
section
variable {b m:Nat} {w0 w:World} {cs:List Chunk}
theorem St.turn (S:St b m w0 w cs)(i:Nat){c:Chunk}(hi:cs[i]? =some c)(c':Chunk)(hc':c'.blk=none)(hok:c'.ok (Mut w0.heap.size cs) w):St b m w0 w (cs.set i c'):=by
 refine S.upd i hi c' ⟨Nat.le_refl _,fun _ _ _=>rfl⟩ S.g (fun k e=>by rw [hc'] at e;cases e) (c'.mono (fun k _ e=>?_) hok);rcases e with e | ⟨x,hx,e⟩
 ·exact .inl (.inl e)
 ·rcases mem_set_cases hx with rfl | ⟨j,_,hx⟩
  ·exact .inr e
  ·exact .inl (.inr ⟨x,List.mem_of_getElem? hx,e⟩)
theorem Mem.turn (S:Mem w0 w cs)(i:Nat){c:Chunk}(hi:cs[i]? =some c)(c':Chunk)(hc':c'.blk=none)(hok:c'.ok (Mut w0.heap.size cs) w):Mem w0 w (cs.set i c'):=by
 refine S.upd i hi c' ⟨Nat.le_refl _,fun _ _ _=>rfl⟩ S.b (fun k e=>by rw [hc'] at e;cases e) (c'.mono (fun k _ e=>?_) hok);rcases e with e | ⟨x,hx,e⟩
 ·exact .inl (.inl e)
 ·rcases mem_set_cases hx with rfl | ⟨j,_,hx⟩
  ·exact .inr e
  ·exact .inl (.inr ⟨x,List.mem_of_getElem? hx,e⟩)
end
end
section
open Go Go.RowKit
section
variable {α:Type} {r:Rep α} {f:α→List Value}
theorem map_flat_len (hl:∀ x,(f x).length=r.size):∀ ys:List α,(ys.map f).flatten.length=ys.length * r.size
 | []=>by simp
 | y::t=>by rw [List.map_cons,List.flatten_cons,List.length_append,hl,map_flat_len hl t,List.length_cons,Nat.succ_mul];omega
theorem Own.appN (hf:r.Flat f){M:Nat→Prop}{w:World}{B E:Nat}{v:Value}{xs ys:List α}(h:Own r M B E w v xs){T ty bytes:Nat}{z:Value}(sty:STy T E r.size bytes z)(hB:B≤w.heap.size)(hlen:xs.length + ys.length≤100000000)(hby:bytes≤1000)
  (ad:Addr) (c:Nat) (hc:∀ j u,(ys.map f).flatten[j]? =some u→w.cell? (ad.add j)=some u) (h1:∀ y∈ys,∀ u∈f y,u.oneCell'=true) (hfl:∀ x,(f x).length=r.size) :
  ∃ v' w',(Builtin.append_ #[T,T] ty #[v,.slice (some ad) ys.length c]).run Tryz.prog w=.ok v' w'∧(∀ M',Own r M' B E w' v' (xs++ys))∧w.grownBy w' v.ownBlock∧∀ k,v'.ownBlock=some k→v.ownBlock=some k∨w.heap.size≤k:=by
 obtain ⟨ls,hl,hr,ho2⟩:=h;obtain ⟨i0,hi0,hz0,hz1,hz2⟩:=info_parts sty.info;have hb3:(xs.length + ys.length) * bytes≤140737488355328:=by
  have:=Nat.mul_le_mul (show xs.length + ys.length≤100000001 by omega) hby
  omega
 have h63:xs.length + ys.length≤maxLen:=by unfold maxLen;omega
 have h1':∀ u∈(ys.map f).flatten,u.oneCell'=true:=fun u hu=>by
  obtain ⟨l,hl,hu⟩:=List.mem_flatten.1 hu;obtain ⟨y,hy,rfl⟩:=List.mem_map.1 hl;exact h1 y hy u hu
 obtain ⟨v',w',hrun,g1,g2,_⟩:=run_append_own (P:=Tryz.prog) w B T ty E i0 z r.size bytes sty.under hi0 hz0 hz1 hz2 sty.zsize sty.pos _ xs.length _ ho2 ad ys.length c (ys.map f).flatten (map_flat_len hfl ys) hc h1' h63 hb3 hB;have hwh:=run_append_where (P:=Tryz.prog) w B T ty E i0 z r.size bytes sty.under hi0 hz0 hz1 hz2 sty.zsize sty.pos _ xs.length _ ho2 ad ys.length c (ys.map f).flatten (map_flat_len hfl ys) hc h1' h63 hb3 hrun;refine ⟨v',w',hrun,fun M'=>⟨ls++ys.map f,by simp [hl],fun j x l e1 e2=>(hf _ _ _ _).2 ?_,?_⟩,g2,hwh⟩
 ·rcases Nat.lt_or_ge j xs.length with hj | hj
  ·rw [List.getElem?_append_left hj] at e1;rw [List.getElem?_append_left (by omega)] at e2;exact (hf _ _ _ _).1 (hr j x l e1 e2)
  ·rw [List.getElem?_append_right hj] at e1;rw [List.getElem?_append_right (by omega),hl,List.getElem?_map,e1] at e2;exact (Option.some.inj e2).symm
 ·rw [List.length_append,List.flatten_append];exact g1
end
section
variable {ops:Array Oper} {rest:List Oper} {o:Oper} {a:Act} {Q:Exit→Act→World→Prop}
theorem St.appN {α:Type}{r:Rep α}{f:α→List Value}(hf:r.Flat f){b m:Nat}{w0 w:World}{cs:List Chunk}(S:St b m w0 w cs)(i:Nat){B E:Nat}{v:Value}{xs:List α}(hi:cs[i]? =some (.own r B E v xs)){T bytes:Nat}{z:Value}(ty:STy T E r.size bytes z)
  (hgd:o.guard=none) (s x:Operand) (ho:o.op=.call { callee:=.builtin .append,args:=#[s,x],argTypes:=#[T,T] }) (ys:List α) (k c:Nat) (hk:k=ys.length) (hs:a.eval s=v) (ad:Addr) (hx:a.eval x=.slice (some ad) k c)
  (hc:∀ j u,(ys.map f).flatten[j]? =some u→w.cell? (ad.add j)=some u) (h1:∀ y∈ys,∀ u∈f y,u.oneCell'=true) (hfl:∀ x,(f x).length=r.size) (hB:B≤w.heap.size) (hlen:xs.length + ys.length≤100000000) (hby:bytes≤1000)
  (h:∀ v' w',St b m w0 w' (cs.set i (.own r B E v' (xs++ys)))→wpList Tryz.prog ops Q rest (a.put o.dst v') w'):wpList Tryz.prog ops Q (o::rest) a w:=by
 subst hk;obtain ⟨v',w',hrun,ho',hg,hwh⟩:=Own.appN (ty:=o.type) hf (S.ow i hi) ty hB hlen hby ad c hc h1 hfl;have hbl:Below w0.heap.size w w':=(Below.refl _ w).grown hg S.g.size (fun k hk=>S.new _ (List.mem_of_getElem? hi) k hk);have hskn:SKN (fun k=>v.ownBlock=some k) w w':=⟨hg.size,fun k hk hn=>hg.block k hk (fun e=>hn e.symm)⟩;refine wpList_plain hgd fun _ hK=>?_;unfold Oper.wp execOp;simp only [ho,resolve,invoke,builtin,Sem.run_bind,Sem.run_pure,Result.andThen_ok,List.map_toArray,List.map_cons,List.map_nil,hs,hx,hrun];exact hK _ _ (h v' w' (S.upd i hi _ hskn (S.g.belowB hbl S.b0) (fun k e=>hwh k e) (ho' _)))
theorem Mem.appN {α:Type}{r:Rep α}{f:α→List Value}(hf:r.Flat f){w0 w:World}{cs:List Chunk}(S:Mem w0 w cs)(i:Nat){B E:Nat}{v:Value}{xs:List α}(hi:cs[i]? =some (.own r B E v xs)){T bytes:Nat}{z:Value}(ty:STy T E r.size bytes z)
  (hgd:o.guard=none) (s x:Operand) (ho:o.op=.call { callee:=.builtin .append,args:=#[s,x],argTypes:=#[T,T] }) (ys:List α) (k c:Nat) (hk:k=ys.length) (hs:a.eval s=v) (ad:Addr) (hx:a.eval x=.slice (some ad) k c)
  (hc:∀ j u,(ys.map f).flatten[j]? =some u→w.cell? (ad.add j)=some u) (h1:∀ y∈ys,∀ u∈f y,u.oneCell'=true) (hfl:∀ x,(f x).length=r.size) (hB:B≤w.heap.size) (hlen:xs.length + ys.length≤100000000) (hby:bytes≤1000)
  (h:∀ v' w',Mem w0 w' (cs.set i (.own r B E v' (xs++ys)))→wpList Tryz.prog ops Q rest (a.put o.dst v') w'):wpList Tryz.prog ops Q (o::rest) a w:=by
 subst hk;obtain ⟨v',w',hrun,ho',hg,hwh⟩:=Own.appN (ty:=o.type) hf (S.ow i hi) ty hB hlen hby ad c hc h1 hfl;have hbl:Below w0.heap.size w w':=(Below.refl _ w).grown hg S.b.size (fun k hk=>S.new _ (List.mem_of_getElem? hi) k hk);have hskn:SKN (fun k=>v.ownBlock=some k) w w':=⟨hg.size,fun k hk hn=>hg.block k hk (fun e=>hn e.symm)⟩;refine wpList_plain hgd fun _ hK=>?_;unfold Oper.wp execOp;simp only [ho,resolve,invoke,builtin,Sem.run_bind,Sem.run_pure,Result.andThen_ok,List.map_toArray,List.map_cons,List.map_nil,hs,hx,hrun];exact hK _ _ (h v' w' (S.upd i hi _ hskn (S.b.trans hbl) (fun k e=>hwh k e) (ho' _)))
theorem alloc_size (w:World)(o:Obj):(w.alloc o).heap.size=w.heap.size + 1:=by simp
end
theorem Mem.room {α:Type}{r:Rep α}{w0 w:World}{cs:List Chunk}(S:Mem w0 w cs)(i:Nat){X E B cap:Nat}{cells:Array Value}(hi:cs[i]? =some (.loc X cells E))(hB:B=w0.heap.size)(hc:cap≤maxLen)(hs:cells.size=cap * r.size):Mem w0 w (cs.set i (.own r B E (.slice (some ⟨X,0,none⟩) 0 cap) [])):=by
 subst hB;exact S.upd i hi _ ⟨Nat.le_refl _,fun _ _ _=>rfl⟩ S.b (fun k e=>.inl e) ⟨[],rfl,fun _ _ _ h=>by simp at h,by simp,.inr ⟨X,cap,cells,rfl,(S.ge i hi).1,S.lv i hi,Nat.zero_le _,hc,hs,by simp⟩⟩
theorem flat_at {α:Type}{f:α→List Value}{n:Nat}(hf:∀ x,(f x).length=n):∀ (xs:List α) (j:Nat) (u:Value),(xs.map f).flatten[j]? =some u→∃ k x r,xs[k]? =some x∧(f x)[r]? =some u∧j=k * n + r
 | [],j,u,h=>by simp at h
 | x::t,j,u,h=>by
  rw [List.map_cons,List.flatten_cons] at h;by_cases hj:j < n
  ·rw [List.getElem?_append_left (by rw [hf];exact hj)] at h;exact ⟨0,x,j,rfl,h,by simp⟩
  ·rw [List.getElem?_append_right (by rw [hf];omega),hf] at h;obtain ⟨k,y,r,h1,h2,h3⟩:=flat_at hf t (j - n) u h;exact ⟨k + 1,y,r,by simpa using h1,h2,by rw [Nat.succ_mul];omega⟩
theorem Own.shape2 {α:Type}{r:Rep α}{N:Nat→Prop}{B E:Nat}{w:World}{v:Value}{xs:List α}(h:Own r N B E w v xs):(v=.slice none 0 0∧xs=[])∨∃ g cap,v=.slice (some ⟨g,0,none⟩) xs.length cap∧xs.length≤cap:=by
 obtain ⟨ls,hl,hr,ho⟩:=h;rcases ho.2 with ⟨e,hn⟩ | ⟨g,cap,cur,e,_,_,hc,_⟩
 ·exact .inl ⟨e,List.length_eq_zero_iff.1 hn⟩
 ·exact .inr ⟨g,cap,e,hc⟩
theorem Sl.flatCells {α:Type}{r:Rep α}{f:α→List Value}(hf:r.Flat f)(hl:∀ x,(f x).length=r.size){N:Nat→Prop}{w:World}{a:Addr}{xs:List α}(h:Sl r N w (some a) xs):∀ j u,(xs.map f).flatten[j]? =some u→w.cell? (a.add j)=some u:=fun j u hu=>by
 obtain ⟨k,x,q,h1,h2,rfl⟩:=flat_at hl xs j u hu;obtain ⟨blk,off,l,e,_,_,hr,hc⟩:=h k x h1;obtain rfl:a=⟨blk,off,none⟩:=Option.some.inj e;obtain rfl:l=f x:=(hf _ _ _ _).1 hr;have:=hc q u h2
 rw [Nat.add_assoc] at this;rw [Addr.add_lit];exact this
theorem Sl.nilOf {α:Type}{r:Rep α}{N:Nat→Prop}{w:World}{xs:List α}(h:Sl r N w none xs):xs=[]:=by
 cases xs with
 | nil=>rfl
 | cons x t =>
  obtain ⟨blk,off,l,e,_⟩:=h 0 x rfl;cases e
end
section
open Go Go.RowKit
section
variable {α:Type} {r:Rep α}
theorem Own.clearRun {M:Nat→Prop}{w:World}{B E g n cap:Nat}{xs:List α}(h:Own r M B E w (.slice (some ⟨g,0,none⟩) n cap) xs)(hn:n=xs.length){T ty bytes:Nat}{z:Value}(sty:STy T E r.size bytes z)(hzv:∀ w,(zeroValue E).run Tryz.prog w=.ok z w)(hz1:∀ j,j < r.size→(z.cells[j]!).oneCell'=true)(k c:Nat)(hk:k≤n) :
  ∃ w',(Builtin.clear_ #[T] ty #[.slice (some ⟨g,k * r.size,none⟩) (n - k) c]).run Tryz.prog w=.ok (.tuple #[]) w'∧(∀ M',(∀ q,M' q→M q∨q=g)→Own r M' B E w' (.slice (some ⟨g,0,none⟩) k cap) (xs.take k))∧w.grownBy w' (some g):=by
 subst hn;have hcut:=h.cut k hk;by_cases h0:k=xs.length
 ·refine ⟨w,?_,fun M' hM=>Own.monoD (fun q _ e=>?_) hcut,⟨rfl,rfl,rfl,Nat.le_refl _,fun _ _ _=>rfl⟩⟩
  ·rw [show xs.length - k=0 by omega];simp [Builtin.clear_,run_underlying sty.under]
  ·rcases hM q e with e | e
   ·exact .inl e
   ·exact .inr (by subst e;rfl)
 ·obtain ⟨ls,hl,hr,ho⟩:=h;rcases ho.2 with ⟨e,_⟩ | ⟨g',cap',cur,e,hB,hg,h5,h6,h7,h8⟩
  ·cases e
  ·cases e;obtain ⟨m,hm⟩:∃ m,xs.length - k=m + 1:=⟨xs.length - k - 1,by omega⟩;have hzs:z.cells.size=r.size:=sty.zsize;have hpos:0 < r.size:=sty.pos;obtain ⟨zs,hzs'⟩:∃ zs,zs=(Builtin.zeroCells z.cells (m + 1)).toList:=⟨_,rfl⟩;have hzl:zs.length=(m + 1) * r.size:=by rw [hzs',Array.length_toList,size_zeroCells,hzs]
   have hz1':∀ v∈zs,v.oneCell'=true:=fun v hv=>by
    rw [hzs'] at hv;simp only [Builtin.zeroCells,Array.toList_map,List.mem_map] at hv;obtain ⟨i,_,rfl⟩:=hv;exact hz1 _ (by rw [hzs];exact Nat.mod_lt _ hpos)
   have hfit:k * r.size + 0 + zs.length≤cur.size:=by
    rw [hzl,h7,Nat.add_zero,← Nat.add_mul];exact Nat.mul_le_mul_right _ (by omega)
   have hst:=run_storeCells_at (P:=Tryz.prog) g (k * r.size) E zs 0 cur w hg hfit hz1';refine ⟨w.setRow g (cur.toList.take (k * r.size + 0)++zs++cur.toList.drop (k * r.size + 0 + zs.length)).toArray,?_,fun M' hM=>?_,⟨rfl,rfl,rfl,by simp [World.setRow],fun q hq hne=>setRow_other w g q _ (fun e=>hne (by rw [e]))⟩⟩
   ·rw [hm];simp [Builtin.clear_,run_underlying sty.under,hzv,← hzs',hst]
   ·obtain ⟨ls2,hl2,hr2,ho3⟩:=hcut;have hkl:(xs.take k).length=k:=by rw [List.length_take];omega
    have hskn:SKN (fun q=>q=g) w (w.setRow g (cur.toList.take (k * r.size + 0)++zs++cur.toList.drop (k * r.size + 0 + zs.length)).toArray):=⟨by simp [World.setRow],fun q hq hne=>setRow_other w g q _ hne⟩;refine ⟨ls2,hl2,fun i x l e1 e2=>?_,ho3.1,.inr ⟨g,cap,_,by rw [hkl],hB,setRow_heap w g cur _ E (0,0) hg,by omega,h6,?_,?_⟩⟩
    ·have h1:=hr2 i x l e1 e2;have h2:=r.keep (hskn.mono fun q e=>.inr (by rw [e];rfl)) h1;refine r.mono (fun q _ e=>?_) h2;rcases e with e | e
     ·rcases hM q e with e | e
      ·exact .inl e
      ·exact .inr (by rw [e];rfl)
     ·exact .inr e
    ·rw [List.size_toArray,List.length_append,List.length_append,List.length_take,List.length_drop,Array.length_toList];rw [Nat.add_zero] at hfit ⊢;omega
    ·rcases ho3.2 with ⟨e,_⟩ | ⟨g2,cap2,cur2,e,_,hg2,_,_,_,h82⟩
     ·cases e
     ·simp only [Value.slice.injEq,Option.some.injEq,Addr.mk.injEq] at e;obtain ⟨⟨rfl,_⟩,_,rfl⟩:=e;rw [hg] at hg2;cases hg2;rw [hkl] at h82 ⊢;rw [← h82];simp only [Nat.add_zero,List.append_assoc];rw [List.take_append_of_le_length (by rw [List.length_take,Array.length_toList];omega),List.take_take,Nat.min_self]
end
section
variable {ops:Array Oper} {rest:List Oper} {o:Oper} {a:Act} {Q:Exit→Act→World→Prop}
theorem Mem.clearTail {α:Type}{r:Rep α}{w0 w:World}{cs:List Chunk}(S:Mem w0 w cs)(i:Nat){B E g n cap:Nat}{xs:List α}(hi:cs[i]? =some (.own r B E (.slice (some ⟨g,0,none⟩) n cap) xs))(hn:n=xs.length){T bytes:Nat}{z:Value}(sty:STy T E r.size bytes z)(hzv:∀ w,(zeroValue E).run Tryz.prog w=.ok z w)(hz1:∀ j,j < r.size→(z.cells[j]!).oneCell'=true)(k c:Nat)(hk:k≤n)
  (hgd:o.guard=none) (x:Operand) (ho:o.op=.call { callee:=.builtin .clear,args:=#[x],argTypes:=#[T] }) (off len:Nat) (hoff:off=k * r.size) (hlen:len=n - k) (hx:a.eval x=.slice (some ⟨g,off,none⟩) len c)
  (h:∀ w',Mem w0 w' (cs.set i (.own r B E (.slice (some ⟨g,0,none⟩) k cap) (xs.take k)))→wpList Tryz.prog ops Q rest (a.put o.dst (.tuple #[])) w'):wpList Tryz.prog ops Q (o::rest) a w:=by
 subst hoff hlen;have hg0:=S.new _ (List.mem_of_getElem? hi) g rfl;obtain ⟨w',hrun,hown,hg⟩:=Own.clearRun (ty:=o.type) (S.ow i hi) hn sty hzv hz1 k c hk;have hbl:Below w0.heap.size w w':=(Below.refl _ w).grown hg S.b.size (fun k hk=>by cases hk;exact hg0);have hskn:SKN (fun q=>Value.ownBlock (.slice (some ⟨g,0,none⟩) n cap)=some q) w w':=⟨hg.size,fun q hq hne=>hg.block q hq (fun e=>hne e.symm)⟩;have S2:=S.upd i hi (.own r B E (.slice (some ⟨g,0,none⟩) k cap) (xs.take k)) hskn (S.b.trans hbl) (fun q e=>.inl e) (hown _ (fun q e=>by
  rcases e with e | ⟨y,hy,e⟩
  ·exact .inl (.inl e)
  ·rcases mem_set_cases hy with rfl | ⟨j,_,hy⟩
   ·exact .inr (Option.some.inj e).symm
   ·exact .inl (.inr ⟨y,List.mem_of_getElem? hy,e⟩)))
 refine wpList_plain hgd fun K' hK'=>?_;unfold Oper.wp;simp [execOp,ho,resolve,invoke,builtin,hx,hrun,Result.andThen];exact hK' _ _ (h w' S2)
end
end
section
open Go Go.RowKit Go.Sort Go.Shelf
structure CmpOk {α:Type} (c:α→α→Int):Prop where
 anti:∀ a b,c a b < 0 ↔ 0 < c b a
 trans:∀ a b d,c a b≤0→c b d≤0→c a d≤0
theorem CmpOk.refl {α:Type}{c:α→α→Int}(h:CmpOk c)(a:α):c a a=0:=by
 have:=h.anti a a
 omega
theorem CmpOk.zero {α:Type}{c:α→α→Int}(h:CmpOk c){a b:α}(e:c a b=0):c b a=0:=by
 have h1:=h.anti a b;have h2:=h.anti b a;omega
theorem CmpOk.lt {α:Type}{c:α→α→Int}(h:CmpOk c){a b d:α}(h1:c a b < 0)(h2:c b d≤0):c a d < 0:=by
 have h3:=h.trans a b d (by omega) h2;have h4:=h.anti a b;have h5:=h.anti a d;have h6:=h.anti d a;have h7:=h.trans b d a h2;omega
theorem CmpOk.lt' {α:Type}{c:α→α→Int}(h:CmpOk c){a b d:α}(h1:c a b≤0)(h2:c b d < 0):c a d < 0:=by
 have h3:=h.trans a b d h1 (by omega);have h4:=h.anti b d;have h5:=h.anti a d;have h6:=h.anti d a;have h7:=h.trans d a b;omega
def lexC {α:Type}(c d:α→α→Int)(a b:α):Int:=if c a b≠0 then c a b else d a b
theorem CmpOk.lex {α:Type}{c d:α→α→Int}(hc:CmpOk c)(hd:CmpOk d):CmpOk (lexC c d) where
 anti a b:=by
  have h1:=hc.anti a b;have h2:=hc.anti b a;have h3:=hd.anti a b;unfold lexC;split <;> split <;> omega
 trans a b e h1 h2:=by
  unfold lexC at h1 h2 ⊢;by_cases e1:c a b=0
  ·rw [if_neg (by omega)] at h1;by_cases e2:c b e=0
   ·rw [if_neg (by omega)] at h2;have h3:=hc.trans a b e (by omega) (by omega);have h4:=hc.trans e b a (by have:=hc.zero e2;omega) (by have:=hc.zero e1;omega);have h5:=hc.anti e a;have h6:=hc.anti a e;rw [if_neg (by omega)];exact hd.trans a b e h1 h2
   ·rw [if_pos e2] at h2;have:=hc.lt' (a:=a) (b:=b) (d:=e) (by omega) (by omega)
    rw [if_pos (by omega)];omega
  ·rw [if_pos e1] at h1;by_cases e2:c b e=0
   ·have:=hc.lt (a:=a) (b:=b) (d:=e) (by omega) (by omega)
    rw [if_pos (by omega)];omega
   ·rw [if_pos e2] at h2;have:=hc.lt (a:=a) (b:=b) (d:=e) (by omega) (by omega)
    rw [if_pos (by omega)];omega
theorem CmpOk.of {α β:Type}{c:β→β→Int}(h:CmpOk c)(f:α→β):CmpOk (fun a b=>c (f a) (f b)):=⟨fun _ _=>h.anti _ _,fun _ _ _=>h.trans _ _ _⟩
theorem cmpOkI:CmpOk Lib.compareInt where
 anti a b:=by unfold Lib.compareInt;split <;> split <;> (try split) <;> (try split) <;> omega
 trans a b d h1 h2:=by unfold Lib.compareInt at *;split at h1 <;> split at h2 <;> (try split at h1) <;> (try split at h2) <;> split <;> (try split) <;> omega
theorem CmpOk.swo {α:Type}{c:α→α→Int}(h:CmpOk c):Go.Sort.SWO (ltOf c) where
 irrefl a:=by unfold ltOf;simp [h.refl a]
 trans a b d h1 h2:=by
  unfold ltOf at *;simp only [decide_eq_true_eq] at *;exact h.lt h1 (by omega)
 ntrans a b d h1 h2:=by
  unfold ltOf at *;simp only [decide_eq_false_iff_not] at *;intro h3;have h4:=h.anti a b;have h5:=h.anti b a;have h6:=h.anti b d;have h7:=h.anti d b;have h8:=h.lt' (a:=b) (b:=a) (d:=d) (by omega) h3;omega
theorem strict_eq {α:Type}(lt:α→α→Prop)(irr:∀ x,¬ lt x x)(tr:∀ x y z,lt x y→lt y z→lt x z):∀ (l m:List α),l.Pairwise lt→m.Pairwise lt→(∀ x,x∈l ↔ x∈m)→l=m
 | [],[],_,_,_=>rfl
 | [],y::s,_,_,h=>absurd ((h y).2 (by simp)) (by simp)
 | x::r,[],_,_,h=>absurd ((h x).1 (by simp)) (by simp)
 | x::r,y::s,hl,hm,h=>by
  obtain ⟨h1,h2⟩:=List.pairwise_cons.1 hl;obtain ⟨h3,h4⟩:=List.pairwise_cons.1 hm;have hxy:x=y:=by
   rcases List.mem_cons.1 ((h x).1 (by simp)) with e | hx
   ·exact e
   ·rcases List.mem_cons.1 ((h y).2 (by simp)) with e | hy
    ·exact e.symm
    ·exact absurd (tr x y x (h1 y hy) (h3 x hx)) (irr x)
  subst hxy;congr 1
  refine strict_eq lt irr tr r s h2 h4 fun z=>?_;constructor
  ·intro hz;rcases List.mem_cons.1 ((h z).1 (by simp [hz])) with rfl | e
   ·exact absurd (h1 z hz) (irr z)
   ·exact e
  ·intro hz;rcases List.mem_cons.1 ((h z).2 (by simp [hz])) with rfl | e
   ·exact absurd (h3 z hz) (irr z)
   ·exact e
theorem cmpOkS:CmpOk cmpS where
 anti a b:=by rw [cmpS_neg,cmpS_pos]
 trans a b d h1 h2:=by
  have e1:=cmpS_neg a b;have e2:=cmpS_neg b d;have e3:=cmpS_neg a d;have z1:=cmpS_zero a b;have z2:=cmpS_zero b d;by_cases h3:cmpS a b=0
  ·rw [z1.1 h3];exact h2
  ·by_cases h4:cmpS b d=0
   ·rw [← z2.1 h4];exact h1
   ·have:=e3.2 (ltS_trans (e1.1 (by omega)) (e2.1 (by omega)))
    omega
end
section
open Go Go.RowKit Go.Sort Go.Shelf
def Grew (w w':World):Prop:=∃ (q:Nat) (os:Array Obj),w'=grow (w.drewN q) os
theorem Grew.refl (w:World):Grew w w:=⟨0,#[],by rw [grow_empty];rfl⟩
theorem Grew.alloc {w w':World}(h:Grew w w')(o:Obj):Grew w (w'.alloc o):=by
 obtain ⟨q,os,rfl⟩:=h;refine ⟨q,os.push o,?_⟩;unfold grow World.alloc;simp only [Array.append_push]
theorem Grew.drew {w w':World}(h:Grew w w'):Grew w w'.drew:=by
 obtain ⟨q,os,rfl⟩:=h;exact ⟨q + 1,os,rfl⟩
theorem Grew.ofDrewn {u w w':World}(h:Grew u w)(hd:Drewn w w'):Grew u w':=by
 rw [show w'=w.drew from hd];exact h.drew
set_option maxHeartbeats 2000000 in
set_option maxRecDepth 100000 in
theorem compareIdsG_any (k1 k2:Int)(t1 t2:ByteArray)(w:World) :
  Calls Tryz.prog 116 #[.agg #[.int .i64 k1,.string t1],.agg #[.int .i64 k2,.string t2]] w fun e w'=>e=.returned (.int .i64 (idCmp k1 t1 k2 t2))∧Grew w w':=by
 obtain ⟨R,HR⟩:∃ R,Hid (idCmp k1 t1 k2 t2=R):=⟨_,Lib.hid rfl⟩;rw [HR.out];have lv1:=(LV.new w w.heap.size #[.int .i64 k1,.string t1] 46 rfl).alloc (.cells #[.int .i64 k2,.string t2] 46);have lv2:=LV.new (w.alloc (.cells #[.int .i64 k1,.string t1] 46)) (w.heap.size + 1) #[.int .i64 k2,.string t2] 46 (by simp);have Hb:Hid (Grew w ((w.alloc (.cells #[.int .i64 k1,.string t1] 46)).alloc (.cells #[.int .i64 k2,.string t2] 46))):=((Grew.refl _).alloc _).alloc _;go_enter Tryz.func116,Tryz.ntmps116
 go_wp2_with fail
 refine wp_region_mix (TwoIds w.heap.size (w.heap.size + 1) k1 t1 k2 t2) [(true,0),(true,1),(true,2),(true,3),(true,5),(true,6),(true,7),(true,8),(false,4),(false,9),(false,10),(false,11),(true,12)] (by kernel_rfl) (by kernel_rfl) (fun w' hd=>⟨lv1.keep (SK.ofBelow (b:=w.heap.size + 2) (hd.below _)) (by omega),lv2.keep (SK.ofBelow (b:=w.heap.size + 2) (hd.below _)) (by omega)⟩) (fun KK hKK wd hd_wd=>?_);have hC:TwoIds w.heap.size (w.heap.size + 1) k1 t1 k2 t2 wd:=⟨lv1.keep (SK.ofBelow (b:=w.heap.size + 2) (hd_wd.below _)) (by omega),lv2.keep (SK.ofBelow (b:=w.heap.size + 2) (hd_wd.below _)) (by omega)⟩;have Hbd:Hid (Grew w wd):=Hb.out.ofDrewn hd_wd;clear lv1 lv2 Hb hd_wd;refine mpR ?_;refine mix_load (.int .i64 k1) rfl rfl rfl rfl (fun _=>rfl) (fun w' h=>h.1.cell 0 _ rfl) ?_;refine mpR ?_;refine mix_load (.int .i64 k2) rfl rfl rfl rfl (fun _=>rfl) (fun w' h=>h.2.cell 0 _ rfl) ?_;refine mpR ?_;refine mix_load (.string t1) rfl rfl rfl rfl (fun _=>rfl) (fun w' h=>h.1.cell 1 _ rfl) ?_;refine mpR ?_;refine mix_load (.string t2) rfl rfl rfl rfl (fun _=>rfl) (fun w' h=>h.2.cell 1 _ rfl) ?_;refine mix_l rfl (fun K hK=>?_) hC;go_wp2_with fail
 refine (cmpInt_any k1 k2 _).mono ?_;rintro e _ ⟨rfl,rfl⟩;go_wp2_with fail
 refine ⟨hC,?_⟩;refine mix_l rfl (fun K hK=>?_) hC;go_wp2_with fail
 refine (compareS_any t1 t2 _).mono ?_;rintro e _ ⟨rfl,rfl⟩;go_wp2_with fail
 refine ⟨hC,?_⟩;refine mix_l rfl (fun K hK=>?_) hC;go_wp2_with fail
 have hC2:TwoIds w.heap.size (w.heap.size + 1) k1 t1 k2 t2 (wd.alloc (.cells #[.int .i64 (Lib.compareInt k1 k2),.int .i64 (cmpS t1 t2)] 3)):=⟨hC.1.alloc _,hC.2.alloc _⟩;refine ⟨hC2,?_⟩;refine mix_l rfl (fun K hK=>?_) hC2;have c0:(wd.alloc (.cells #[.int .i64 (Lib.compareInt k1 k2),.int .i64 (cmpS t1 t2)] 3)).cell? ⟨wd.heap.size,0,none⟩=some (.int .i64 (Lib.compareInt k1 k2)):=by rw [World.cell?_alloc_at _ _ _ _ rfl];rfl
 have c1:(wd.alloc (.cells #[.int .i64 (Lib.compareInt k1 k2),.int .i64 (cmpS t1 t2)] 3)).cell? ⟨wd.heap.size,1,none⟩=some (.int .i64 (cmpS t1 t2)):=by rw [World.cell?_alloc_at _ _ _ _ rfl];rfl
 have Hor:=Lib.hid (or_any wd.heap.size _ _ _ c0 c1);clear c0 c1;have HR2:Hid ((if Lib.compareInt k1 k2≠0 then Lib.compareInt k1 k2 else cmpS t1 t2)=R):=by
  show _=_;rw [← HR.out,idCmp,Lib.compareInt];by_cases h1:k1 < k2
  ·simp [h1]
  ·by_cases h2:k1=k2
   ·simp [h2]
   ·have h3:k2 < k1:=by omega
    simp [h1,h2,h3]
 rw [HR2.out] at Hor;clear HR HR2;go_wp2_with fail
 refine (Hor.out).mono ?_;rintro e _ ⟨rfl,rfl⟩;go_wp2_with fail
 refine ⟨hC2,?_⟩;refine mpR ?_;refine mix_nil ?_;simp only [Exit.then];refine hKK _ _ ?_;go_wp2_with fail
 go_ret;exact ⟨rfl,Hbd.out.alloc _⟩
set_option maxHeartbeats 2000000 in
set_option maxRecDepth 100000 in
theorem orderG_any (k1 k2:Int)(t1 t2:ByteArray)(w:World) :
  Calls Tryz.prog 78 #[.agg #[.int .i64 k1,.string t1],.agg #[.int .i64 k2,.string t2]] w fun e w'=>e=.returned (.int .i64 (idCmp k1 t1 k2 t2))∧Grew w w':=by
 by_cases hk:k1=k2
 ·subst hk;obtain ⟨R,HR⟩:∃ R,Hid (idCmp k1 t1 k1 t2=R):=⟨_,Lib.hid rfl⟩;rw [HR.out];have Hb:Hid (Grew w ((w.alloc (.cells #[.int .i64 k1,.string t1] 46)).alloc (.cells #[.int .i64 k1,.string t2] 46))):=((Grew.refl _).alloc _).alloc _;go_enter Tryz.func78,Tryz.ntmps78
  go_wp2_with fail
  all_goals (go_ret;refine ⟨ret_i ?_,Hb.out⟩;rw [← HR.out];unfold idCmp cmpS;clear HR Hb;simp_all)
 ·have hk':(k1==k2)=false:=by simpa using hk
  obtain ⟨R,HR⟩:∃ R,Hid (idCmp k1 t1 k2 t2=R):=⟨_,Lib.hid rfl⟩;rw [HR.out];have Hb:Hid (Grew w ((w.alloc (.cells #[.int .i64 k1,.string t1] 46)).alloc (.cells #[.int .i64 k2,.string t2] 46))):=((Grew.refl _).alloc _).alloc _;go_enter Tryz.func78,Tryz.ntmps78
  go_wp2_with fail
  all_goals
   go_ret;refine ⟨ret_i ?_,Hb.out⟩;rw [← HR.out];unfold idCmp;first
    | (rw [if_pos (by assumption)];done)
    | (rw [if_neg (by omega),if_neg hk];done)
end
section
open Go Go.RowKit Go.Sort Go.Shelf
theorem flatK_val {T:Type}[Inhabited T]{P:T→Prop}[Inhabited {x // P x}](f:T→List Value)(k:Nat)(d:Array {x // P x}):flatK (fun x:{x // P x}=>f x.1) k d=flatK f k (d.map Subtype.val):=by
 unfold flatK;rw [Array.size_map];refine Array.map_congr_left fun t ht=>?_;have h1:t < d.size * k:=by simpa using ht
 have hk:0 < k:=by
  rcases Nat.eq_zero_or_pos k with h | h
  ·subst h;simp at h1
  ·exact h
 have h2:t / k < d.size:=Nat.div_lt_of_lt_mul (by rw [Nat.mul_comm];exact h1);rw [getElem!_pos d _ h2,getElem!_pos (d.map Subtype.val) _ (by simpa using h2),Array.getElem_map]
def GivesSorted {T:Type}(r:Rep T)(c:T→T→Int)(w0:World)(cs:List Chunk)(i B E:Nat)(v:Value)(xs:List T)(e:Ending)(w':World):Prop :=
 e=.returned (.tuple #[])∧∃ ys:List T,ys.Perm xs∧ys.Pairwise (fun a b=>c a b≤0)∧Mem w0 w' (cs.set i (.own r B E v ys))
theorem sortFn_own {T:Type}[Inhabited T]{r:Rep T}{f:T→List Value}(hf:r.Flat f)(hk0:0 < r.size)(hk:∀ x,(f x).length=r.size)(h1:∀ x,∀ v∈f x,v.oneCell'=true){ρ:Go.Shelf.Ren}(L:SlLaysF0.n6 Tryz.prog ρ)
  (aE:∀ w,(isAgg (ρ.t 24)).run Tryz.prog w=.ok true w) (zE:∀ w,(Go.sizeOf (ρ.t 24)).run Tryz.prog w=.ok r.size w) (P:T→Prop) (cf c:T→T→Int) (hc:CmpOk c) (hcf:∀ a b,cf a b < 0 ↔ c a b < 0) (g:Nat)
  (eg:∀ args w,(callFunc g args).run Tryz.prog w=.ok (.enter g args) w)
  (hcmp:∀ a b,P a→P b→∀ w,Calls Tryz.prog g #[.agg (f a).toArray,.agg (f b).toArray] w fun e w'=>e=.returned (.int .i64 (cf a b))∧Grew w w')
  {w0 w:World} {cs:List Chunk} (S:Mem w0 w cs) (i:Nat) {B E:Nat} {v:Value} {xs:List T} (hi:cs[i]? =some (.own r B E v xs)) (hP:∀ x∈xs,P x) (hl:xs.length≤1000000) :
  Calls Tryz.prog (ρ.f 6) #[v,.func (.func g) #[] #[]] w (GivesSorted r c w0 cs i B E v xs):=by
 cases hxs:xs with
 | nil =>
  subst hxs;obtain ⟨A,c1,rfl⟩:=(S.ow i hi).len;refine (AnyF.slices_SortFunc_none L A c1 _ w).mono ?_;rintro e w' ⟨rfl,rfl⟩;exact ⟨rfl,[],List.Perm.refl _,List.Pairwise.nil,by
   have:cs.set i (.own r B E (.slice A ([]:List T).length c1) [])=cs:=by
    obtain ⟨h2,h3⟩:=List.getElem?_eq_some_iff.1 hi;rw [← h3];exact List.set_getElem_self h2
   rw [this];exact S⟩
 | cons x0 r0 =>
  rw [← hxs];have hx0:P x0:=hP x0 (by rw [hxs];simp);haveI:Inhabited {x // P x}:=⟨⟨x0,hx0⟩⟩
  have hne:1≤xs.length:=by rw [hxs];simp
  obtain ⟨gb,cap,rfl,hcap⟩:=(S.ow i hi).form hne;have hg:=S.lt (List.mem_of_getElem? hi) (k:=gb) rfl;have hH:=Own.holdsK hf hk0 (S.ow i hi) rfl hk;obtain ⟨d,hd⟩:∃ d:Array {x // P x},d.map Subtype.val=xs.toArray:=⟨(xs.attach.map fun x=>(⟨x.1,hP x.1 x.2⟩:{x // P x})).toArray,by simp [Function.comp_def]⟩;have hds:d.size=xs.length:=by have:=congrArg Array.size hd;simpa using this
  have hH2:HoldsK (fun x:{x // P x}=>f x.1) r.size w gb 0 d:=by
   unfold HoldsK at hH ⊢;rw [flatK_val,hd];exact hH
  have hcon:=AnyQ.slices_SortFunc L r.size aE zE (fun x:{x // P x}=>f x.1) (fun x=>hk x.1) (fun x=>h1 x.1) (fun a b=>cf a.1 b.1)
   (by
    have h2:ltOf (fun a b:{x // P x}=>cf a.1 b.1)=ltOf (fun a b:{x // P x}=>c a.1 b.1):=by
     funext a b
     unfold ltOf;rw [decide_eq_decide];exact hcf a.1 b.1
    rw [h2];exact (hc.of (Subtype.val:{x // P x}→T)).swo)
   g #[] gb 0 cap d w eg (fun m os dk hs x y=>hcmp x.1 y.1 x.2 y.2 _) hH2 hg (by omega)
  rw [hds] at hcon;refine hcon.mono ?_;rintro e w' ⟨rfl,d',n,os,hp,hs,rfl⟩;obtain ⟨hp1,_,hp2⟩:=hp;have hds':d'.size=xs.length:=hp1.trans hds;have hpl:d'.toList.Perm d.toList:=by
   have e1:d'.extract 0 xs.length=d':=by rw [← hds'];simp
   have e2:d.extract 0 xs.length=d:=by rw [← hds];simp
   rw [e1,e2] at hp2;exact hp2
  refine ⟨rfl,d'.toList.map Subtype.val,?_,?_,?_⟩
  ·have h3:=hpl.map Subtype.val;have h4:d.toList.map Subtype.val=xs:=by
    have:=congrArg Array.toList hd
    simpa using this
   rw [h4] at h3;exact h3
  ·rw [List.pairwise_map,List.pairwise_iff_getElem];intro p q hp' hq hpq;have hp3:p < d'.size:=by simpa using hp'
   have hq3:q < d'.size:=by simpa using hq
   have h5:=hs p q (Nat.zero_le _) hpq (by omega);rw [getElem!_pos d' q hq3,getElem!_pos d' p hp3] at h5;unfold ltOf at h5;simp only [decide_eq_false_iff_not] at h5;rw [hcf] at h5;have h6:=hc.anti d'[q].1 d'[p].1;have h7:=hc.anti d'[p].1 d'[q].1;simp only [Array.getElem_toList];omega
  ·have h8:sortWorldK (fun x:{x // P x}=>f x.1) r.size w gb 0 n d' os=sortWorldK f r.size w gb 0 n (d'.toList.map Subtype.val).toArray os:=by
    unfold sortWorldK putRowK;rw [flatK_val];rw [← Array.toList_map,Array.toArray_toList]
   rw [h8];exact S.sortedK hf hk0 hk i hi (by rw [List.length_map,Array.length_toList,hds'])
end
section
open Go Go.RowKit
theorem take_get (a:Array Obj){n k:Nat}(h:k < n):(a.take n)[k]? =a[k]? :=by
 rw [← Array.getElem?_toList,← Array.getElem?_toList];simp only [Array.take_eq_extract,Array.toList_extract,List.extract_eq_take_drop,Nat.sub_zero,List.drop_zero];rw [List.getElem?_take_of_lt h]
theorem St.viaMem {b m:Nat}{w0 w:World}{cs:List Chunk}(S:St b m w0 w cs):∃ wb,wb.heap.size=w0.heap.size∧Mem wb w cs∧∀ w' cs',Mem wb w' cs'→St b m w0 w' cs':=by
 have hsz:=S.g.size;have hb:=S.b0;refine ⟨{ w with heap:=w.heap.take w0.heap.size },?_,⟨⟨rfl,rfl,rfl,?_,fun k hk=>?_⟩,?_,?_,S.sep⟩,fun w' cs' M=>?_⟩
 ·show (w.heap.take w0.heap.size).size=_;simp;omega
 ·show (w.heap.take w0.heap.size).size≤_;simp;omega
 ·have hk':k < (w.heap.take w0.heap.size).size:=hk;show w.heap[k]? =(w.heap.take w0.heap.size)[k]?;simp at hk';rw [take_get _ (by omega)]
 ·have e:(w.heap.take w0.heap.size).size=w0.heap.size:=by simp;omega
  show ∀ c∈cs,c.ok (Mut (w.heap.take w0.heap.size).size cs) w;rw [e];exact S.ok
 ·have e:(w.heap.take w0.heap.size).size=w0.heap.size:=by simp;omega
  show ∀ c∈cs,∀ k,c.blk=some k→(w.heap.take w0.heap.size).size≤k;rw [e];exact S.new
 ·have e:(w.heap.take w0.heap.size).size=w0.heap.size:=by simp;omega
  have hblk:∀ k,k < w0.heap.size→w'.heap[k]? =w.heap[k]? :=fun k hk=>by
   have h1:=M.b.block k (by show k < (w.heap.take w0.heap.size).size;omega);rw [h1];show (w.heap.take w0.heap.size)[k]? =w.heap[k]?;rw [take_get _ hk]
  have hsz':w0.heap.size≤w'.heap.size:=by
   have:=M.b.size
   have h2:(w.heap.take w0.heap.size).size≤w'.heap.size:=this;omega
  refine ⟨⟨⟨M.b.os.trans S.g.k.os,M.b.tape.trans S.g.k.tape,M.b.output.trans S.g.k.output,hsz',fun k hk hn=>(hblk k hk).trans (S.g.k.block k hk hn)⟩,S.g.s.lower (fun k hk=>hblk k (by omega))⟩,hb,?_,?_,M.sep⟩
  ·have:=M.ok
   rw [show World.heap { w with heap:=w.heap.take w0.heap.size }=w.heap.take w0.heap.size from rfl,e] at this;exact this
  ·have:=M.new
   rw [show World.heap { w with heap:=w.heap.take w0.heap.size }=w.heap.take w0.heap.size from rfl,e] at this;exact this
end
end Go.Proofs.YtmkkppknaikjjaaGreatDoor
