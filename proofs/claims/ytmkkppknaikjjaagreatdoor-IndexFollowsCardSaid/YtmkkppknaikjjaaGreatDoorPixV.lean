/- Several texts in one: DistLaw, Dist, Builder, QuoteLaw, Quote, Points, Value, Cmp, Fields, IdOrder, Find, FldLaw, LevLaw, Far, Text. -/
import Derived.Test.YtmkkppknaikjjaaGreatDoorPixB
import Derived.Laws.Cover1
import Derived.Test.YtmkkppknaikjjaaGreatDoorRows
import Derived.Test.YtmkkppknaikjjaaGreatDoorShix
import Derived.WalkKit
import Derived.ProofKit
import Derived.Lib.Builder
import Derived.Lib.AppendStr
import Derived.Lib.UnsafeStr
import Derived.Lib.Walk
import Derived.Laws.Externs
import Derived.Laws.IdiomCopy
import Derived.Lib.Strings
import Derived.Lib.ConvBytes
import Derived.Lib.Bytealg
import Derived.Lib.TrimU
import Derived.Shelf.Unicode.DecodeLastEight
import Derived.Test.YtmkkppknaikjjaaGreatDoorPixW
import Derived.WalkLawsBesides
import Derived.Sort.Walk0
import Derived.Test.YtmkkppknaikjjaaGreatDoorPixM
import Derived.Lib.ValidAsc
/- Edit distances, plainly: by rows from the front, by columns from the end, and that both are one number. No program is in sight. -/
namespace Go.Proofs.YtmkkppknaikjjaaGreatDoor.D
def nextRow (f:Nat→Nat)(c:Nat→Nat)(z:Nat):Nat→Nat
 | 0=>z
 | j + 1=>min (min (f j + c j) (nextRow f c z j + 1)) (f (j + 1) + 1)
def pre (a b:List Int):Nat→Nat→Nat
 | 0=>fun j=>j
 | i + 1=>nextRow (pre a b i) (fun j=>if a[i]? =b[j]? then 0 else 1) (i + 1)
theorem pre_col (a b:List Int)(i:Nat):pre a b i 0=i:=by cases i <;> rfl
theorem pre_succ (a b:List Int)(i j:Nat):pre a b (i + 1) (j + 1)=min (min (pre a b i j + (if a[i]? =b[j]? then 0 else 1)) (pre a b (i + 1) j + 1)) (pre a b i (j + 1) + 1):=rfl
theorem nextRow_le (f c:Nat→Nat)(z:Nat)(hf:∀ j,f j≤z + j):∀ j,nextRow f c z j≤z + j
 | 0=>Nat.le_refl _
 | j + 1=>by have:=nextRow_le f c z hf j;simp only [nextRow];omega
theorem pre_le (a b:List Int):∀ i j,pre a b i j≤i + j
 | 0,j=>by simp [pre]
 | i + 1,j=>nextRow_le _ _ _ (fun j=>by have:=pre_le a b i j;omega) j
end Go.Proofs.YtmkkppknaikjjaaGreatDoor.D
namespace Go.Proofs.YtmkkppknaikjjaaGreatDoor
section
open Go.RowKit
theorem tyInts:STy 22 3 1 8 (.int .i64 0):=⟨Tryz.underlying22,by kernel_rfl,rfl,by decide⟩
def rowOf (n:Nat)(g:Nat→Nat):List Value:=(List.range n).map fun t=>Value.int .i64 (g t)
theorem rowOf_len (n:Nat)(g:Nat→Nat):(rowOf n g).length=n:=by simp [rowOf]
theorem rowOf_get (n:Nat)(g:Nat→Nat)(j:Nat)(h:j < n):(rowOf n g)[j]? =some (.int .i64 (g j)):=by simp [rowOf,h]
theorem rowOf_set (n:Nat)(g:Nat→Nat)(j u:Nat):(rowOf n g).set j (.int .i64 u)=rowOf n (fun t=>if t=j then u else g t):=by
 apply List.ext_getElem?;intro i;rw [List.getElem?_set];by_cases hi:i < n
 ·rw [rowOf_get n (fun t=>if t=j then u else g t) i hi,rowOf_get n g i hi];by_cases hij:j=i
  ·subst hij;simp [rowOf_len,hi]
  ·rw [if_neg hij,if_neg (Ne.symm hij)]
 ·by_cases hij:j=i
  ·subst hij;simp [hi,rowOf]
  ·rw [if_neg hij];simp [rowOf,hi]
def RowIs (B n:Nat)(g:Nat→Nat)(w:World):Prop:=w.ownsRow B 3 1 (.slice (some ⟨B,0,none⟩) n n) n (rowOf n g)
theorem RowIs.cell {B n:Nat}{g:Nat→Nat}{w:World}(h:RowIs B n g w)(j:Nat)(hj:j < n):w.cell? ⟨B,j,none⟩=some (.int .i64 (g j)):=by
 have:=World.ownsRow.cellAt h j (by omega)
 rw [this,rowOf_get n g j hj]
theorem RowIs.free {B n:Nat}{g:Nat→Nat}{w:World}(h:RowIs B n g w)(j:Nat):w.frozen? ⟨B,j,none⟩=false:=World.ownsRow.frozenAt h j
theorem RowIs.put {B n:Nat}{g:Nat→Nat}{w:World}(h:RowIs B n g w)(j u:Nat):RowIs B n (fun t=>if t=j then u else g t) (w.setCell ⟨B,j,none⟩ (.int .i64 u)):=by
 have:=(World.ownsRow.stored h j (.int .i64 u)).1
 unfold RowIs;rw [← rowOf_set];exact this
theorem rowOf_made (n:Nat):(madeCells (Value.int .i64 0).cells (n * 1)).toList=rowOf n (fun _=>0):=by
 rw [Nat.mul_one];show (madeCells #[Value.int .i64 0] n).toList=_;rw [toList_madeCells_one];apply List.ext_getElem?;intro i;by_cases hi:i < n
 ·rw [rowOf_get n _ i hi];simp [hi]
 ·simp [rowOf,hi]
@[go_sem high] theorem run_min3 {P:Program} (w:World) (ts:Array TypeId) (t:TypeId) (x y z:Int) :
  (Builtin.min_ ts t #[.int .i64 x,.int .i64 y,.int .i64 z]).run P w=.ok (.int .i64 (min (min x y) z)) w:=by
 rw [run_min_int3];congr 2
 rw [Int.min_def,Int.min_def];repeat' split
 all_goals omega
set_option maxHeartbeats 2000000 in
set_option maxRecDepth 100000 in
theorem dist_any (va vb:Value)(a b:List Int)(w:World)(ha:Rd w va a.length 1 (a.map (Value.int .i32)))(hb:Rd w vb b.length 1 (b.map (Value.int .i32)))(hna:a.length≤100000000)(hnb:b.length≤100000000) :
  Calls Tryz.prog 127 #[va,vb] w fun e w'=>e=.returned (.int .i64 (D.pre a b a.length b.length))∧Below w.heap.size w w':=by
 obtain ⟨aa,ca,rfl⟩:∃ x c,va=.slice x a.length c:=by
  rcases ha.2 with ⟨x,c,rfl,h0⟩ | ⟨blk,off,cap,rfl,_⟩
  ·exact ⟨x,c,by rw [h0]⟩
  ·exact ⟨_,cap,rfl⟩
 obtain ⟨ab,cb,rfl⟩:∃ x c,vb=.slice x b.length c:=by
  rcases hb.2 with ⟨x,c,rfl,h0⟩ | ⟨blk,off,cap,rfl,_⟩
  ·exact ⟨x,c,by rw [h0]⟩
  ·exact ⟨_,cap,rfl⟩
 have Ha:Hid (∀ i,i < a.length→∃ blk off x,aa=some ⟨blk,off,none⟩∧blk < w.heap.size∧a[i]? =some x∧w.cell? ⟨blk,off + i,none⟩=some (.int .i32 x)):=by
  intro i hi;rcases ha.2 with ⟨x,c,he,h0⟩ | ⟨blk,off,cap,he,hk,hc⟩
  ·omega
  ·cases he;exact ⟨blk,off,_,rfl,hk,List.getElem?_eq_getElem hi,hc i _ (by simp [hi])⟩
 have Hb:Hid (∀ i,i < b.length→∃ blk off x,ab=some ⟨blk,off,none⟩∧blk < w.heap.size∧b[i]? =some x∧w.cell? ⟨blk,off + i,none⟩=some (.int .i32 x)):=by
  intro i hi;rcases hb.2 with ⟨x,c,he,h0⟩ | ⟨blk,off,cap,he,hk,hc⟩
  ·omega
  ·cases he;exact ⟨blk,off,_,rfl,hk,List.getElem?_eq_getElem hi,hc i _ (by simp [hi])⟩
 clear ha hb;go_enter Tryz.func127,Tryz.ntmps127
 go_wp2_with (at_make;refine make_n tyInts rfl _ _ rfl w.heap.size (b.length + 1) _ _ rfl rfl (by omega) (by omega) (Nat.le_refl _) (by omega) (by decide) ?_;intro w1 hown1 hg1 hl1;rw [rowOf_made] at hown1;clear hg1)
 have Hr1:=Lib.hid (show RowIs w.heap.size (b.length + 1) (fun _=>0) w1 from hown1);clear hown1;go_loopw [19] (fun i wr=>∃ k g,k≤b.length + 1∧i=.int .i64 k∧RowIs w.heap.size (b.length + 1) g wr∧(∀ t,t < k→g t=t)∧Below w.heap.size w wr) (fun i _=>b.length + 1 - (intOf i).toNat)
 case atStart=>exact ⟨0,fun _=>0,by omega,rfl,Hr1.out,fun t ht=>absurd ht (by omega),hl1⟩
 case round =>
  obtain ⟨k,g,hk,rfl,hrow,hg,hbl⟩:=hrel;clear Hr1 hl1;have Hrow:=Lib.hid hrow;have Hg:=Lib.hid hg;clear hrow hg;by_cases hlt:k < b.length + 1
  ·have c1:=Hrow.out.cell k hlt;have f1:=Hrow.out.free k;go_wp2_with fail
   go_roundw
   case rel =>
    refine ⟨k + 1,_,by omega,by go_num,Hrow.out.put k k,fun t ht=>?_,hbl.setCell (p:=⟨w.heap.size,k,none⟩) (Nat.le_refl _) _⟩;by_cases h:t=k
    ·rw [if_pos h,h]
    ·rw [if_neg h];exact Hg.out t (by omega)
   case measure=>simp [intOf];omega
  ·have Hp0:Hid (∀ t,t≤b.length→g t=D.pre a b 0 t):=fun t ht=>Hg.out t (by omega);clear Hg;go_wp2_with fail
   obtain ⟨wo,hwo⟩:∃ wo:World,wo=wr:=⟨_,rfl⟩;subst hwo;go_loopw [29] (fun i wr=>∃ k g,k≤a.length∧i=.int .i64 k∧RowIs w.heap.size (b.length + 1) g wr∧(∀ t,t≤b.length→g t=D.pre a b k t)∧Below w.heap.size w wr) (fun i _=>a.length - (intOf i).toNat)
   case atStart=>exact ⟨0,g,by omega,rfl,Hrow.out,Hp0.out,hbl⟩
   case round =>
    clear Hp0 Hrow hbl hlt hk;obtain ⟨i,g2,hi,rfl,hrow,hg,hbl⟩:=hrel;have Hrow:=Lib.hid hrow;have Hg:=Lib.hid hg;clear hrow hg;by_cases hlt:i < a.length
    ·have c0:=Hrow.out.cell 0 (by omega);rw [Hg.out 0 (by omega),D.pre_col a b i] at c0;have f0:=Hrow.out.free 0;obtain ⟨blk,off,x,rfl,hblk,hx,hca⟩:=Ha.out i hlt;have Hx:=Lib.hid hx;clear hx;have hca':wr.cell? ⟨blk,off + i,none⟩=some (.int .i32 x):=by rw [hbl.cell (p:=⟨blk,off + i,none⟩) hblk];exact hca
     clear hca;have Hrow2:=Lib.hid (Hrow.out.put 0 (i + 1));have hbl2:=hbl.setCell (p:=⟨w.heap.size,0,none⟩) (Nat.le_refl _) (.int .i64 ((i + 1:Nat):Int));go_wp2_with fail
     have e1:(.int .i64 ((i:Int) + 1):Value)=.int .i64 ((i + 1:Nat):Int):=by go_num
     rw [e1];clear e1 c0 f0 hca';generalize wr.setCell ⟨w.heap.size,0,none⟩ (.int .i64 ((i + 1:Nat):Int))=wz at *;go_loopw [9,43] (fun bf j wr=>∃ k g,k≤b.length∧j=.int .i64 k∧bf=.int .i64 (D.pre a b i k)∧RowIs w.heap.size (b.length + 1) g wr∧(∀ t,t≤b.length→g t=if t≤k then D.pre a b (i + 1) t else D.pre a b i t)∧Below w.heap.size w wr) (fun _ j _=>b.length - (intOf j).toNat)
     case atStart =>
      refine ⟨0,_,by omega,rfl,by rw [D.pre_col],Hrow2.out,fun t ht=>?_,hbl2⟩;by_cases h:t=0
      ·subst h;simp [D.pre_col]
      ·rw [if_neg h,if_neg (by omega)];exact Hg.out t ht
     case round =>
      clear Hrow2 hbl2 Hrow Hg hbl;obtain ⟨j,g3,hj,rfl,rfl,hrow,hg,hbl⟩:=hrel;have Hrow:=Lib.hid hrow;have Hg:=Lib.hid hg;clear hrow hg;by_cases hjl:j < b.length
      ·obtain ⟨blk2,off2,y,rfl,hblk2,hy,hcb⟩:=Hb.out j hjl;have Hy:=Lib.hid hy;clear hy;have hcb':wr.cell? ⟨blk2,off2 + j,none⟩=some (.int .i32 y):=by rw [hbl.cell (p:=⟨blk2,off2 + j,none⟩) hblk2];exact hcb
       clear hcb;have cj:=Hrow.out.cell j (by omega);have cj1:=Hrow.out.cell (j + 1) (by omega);rw [Hg.out j (by omega),if_pos (Nat.le_refl _)] at cj;rw [Hg.out (j + 1) (by omega),if_neg (by omega)] at cj1;have fj1:=Hrow.out.free (j + 1);have l1:=D.pre_le a b i j;have l2:=D.pre_le a b (i + 1) j;have l3:=D.pre_le a b i (j + 1);have Hs:=Lib.hid (D.pre_succ a b i j);have Hput:=Lib.hid (Hrow.out.put (j + 1) (D.pre a b (i + 1) (j + 1)));have hblp:=hbl.setCell (p:=⟨w.heap.size,j + 1,none⟩) (Nat.le_refl _) (.int .i64 ((D.pre a b (i + 1) (j + 1):Nat):Int));have Hend:Hid (∀ t,t≤b.length→(fun t=>if t=j + 1 then D.pre a b (i + 1) (j + 1) else g3 t) t=if t≤j + 1 then D.pre a b (i + 1) t else D.pre a b i t):=fun t ht=>by
        show (if t=j + 1 then _ else _)=_;by_cases h:t=j + 1
        ·subst h;simp
        ·rw [if_neg h,Hg.out t ht];by_cases h2:t≤j
         ·rw [if_pos h2,if_pos (by omega)]
         ·rw [if_neg h2,if_neg (by omega)]
       obtain ⟨p1,hp1⟩:∃ p,D.pre a b i j=p:=⟨_,rfl⟩;obtain ⟨p2,hp2⟩:∃ p,D.pre a b (i + 1) j=p:=⟨_,rfl⟩;obtain ⟨p3,hp3⟩:∃ p,D.pre a b i (j + 1)=p:=⟨_,rfl⟩;have Hp3:=Lib.hid hp3;rw [hp1,hp2,hp3] at Hs;rw [hp2] at cj;rw [hp3] at cj1;rw [hp1] at l1 ⊢;rw [hp2] at l2;rw [hp3] at l3;clear hp1 hp2 hp3;by_cases hxy:x=y
       ·have e1:(x != y)=false:=by simp [hxy]
        have hab:a[i]? =b[j]? :=by rw [Hx.out,Hy.out,hxy]
        rw [if_pos hab] at Hs;have Hv:Hid (min (min (p1:Int) ((p2:Int) + 1)) ((p3:Int) + 1)=((D.pre a b (i + 1) (j + 1):Nat):Int)):=by show _=_;rw [Hs.out];omega
        clear hxy hab;go_wp2_with fail
        rw [show (min (p1:Int) (min (p2:Int) (p3:Int) + 1))=((D.pre a b (i + 1) (j + 1):Nat):Int) from by rw [← Hv.out];omega];go_roundw
        case rel=>exact ⟨j + 1,_,by omega,by go_num,by rw [Hp3.out],Hput.out,Hend.out,hblp⟩
        case measure=>simp [intOf];omega
       ·have e1:(x != y)=true:=by simpa using hxy
        have hab:¬ a[i]? =b[j]? :=by rw [Hx.out,Hy.out];intro h;exact hxy (Option.some.inj h)
        rw [if_neg hab] at Hs;have Hv:Hid (min (min ((p1:Int) + 1) ((p2:Int) + 1)) ((p3:Int) + 1)=((D.pre a b (i + 1) (j + 1):Nat):Int)):=by show _=_;rw [Hs.out];omega
        clear hxy hab;go_wp2_with fail
        rw [show (min (p1:Int) (min (p2:Int) (p3:Int)) + 1)=((D.pre a b (i + 1) (j + 1):Nat):Int) from by rw [← Hv.out];omega];go_roundw
        case rel=>exact ⟨j + 1,_,by omega,by go_num,by rw [Hp3.out],Hput.out,Hend.out,hblp⟩
        case measure=>simp [intOf];omega
      ·go_wp2_with fail
       go_roundw
       case rel =>
        refine ⟨i + 1,g3,by omega,by go_num,Hrow.out,fun t ht=>?_,hbl⟩;rw [Hg.out t ht,if_pos (by omega)]
       case measure=>simp [intOf];omega
    ·have hia:i=a.length:=by omega
     have cm:=Hrow.out.cell b.length (by omega);rw [Hg.out b.length (Nat.le_refl _),hia] at cm;clear hia;go_wp2_with fail
     go_ret;exact ⟨rfl,hbl⟩
end
section
open Go.RowKit
theorem bldSize:(Tryz.prog.info? 202).map (·.size)=some 2:=by kernel_rfl
theorem bldLies:liesAt Tryz.prog Tryz.prog.depth 202 (2 / Tryz.prog.cellsOf 202) 0 202 1=true:=by kernel_rfl
theorem byteInfo:(Tryz.prog.info? 5).map (fun i=>(i.zero,i.size,i.bytes))=some (some (.int .u8 0),1,1):=by kernel_rfl
set_option maxHeartbeats 1000000 in
set_option maxRecDepth 100000 in
theorem bld_check_used (b:Nat)(w:World)(h0:w.cell? ⟨b,0,none⟩=some (.pointer (some ⟨b,0,none⟩))) :
  Calls Tryz.prog 208 #[.pointer (some ⟨b,0,none⟩)] w fun e w'=>e=.returned (.tuple #[])∧w'=w:=by
 obtain ⟨j,hj,_⟩:=Option.map_eq_some_iff.1 bldSize;go_enter Tryz.func208,Tryz.ntmps208
 go_wp2
 rw [Lib.run_neq_ptr_same w _ Tryz.underlying199 hj];go_wp2
 go_end0;exact ⟨rfl,rfl⟩
set_option maxHeartbeats 1000000 in
set_option maxRecDepth 100000 in
theorem bld_check_fresh (b:Nat)(w:World)(h0:w.cell? ⟨b,0,none⟩=some (.pointer none))(hsh:w.shape? b=some (202,2))(hfz:w.frozen? ⟨b,0,none⟩=false) :
  Calls Tryz.prog 208 #[.pointer (some ⟨b,0,none⟩)] w fun e w'=>e=.returned (.tuple #[])∧w'=w.setCell ⟨b,0,none⟩ (.pointer (some ⟨b,0,none⟩)):=by
 obtain ⟨j,hj,hjs⟩:=Option.map_eq_some_iff.1 bldSize;go_enter Tryz.func208,Tryz.ntmps208
 go_wp2
 rw [Lib.run_to_unsafe w ⟨b,0,none⟩ Tryz.underlying199 Tryz.underlying325 hj (by rw [hjs];decide) hsh (Nat.zero_lt_succ 1)];simp only [Result.andThen];rw [Oper.upon_value];go_wp2
 rw [run_callFunc_extern Tryz.func281 (by kernel_rfl) (by kernel_rfl) (by kernel_rfl) (e:=Extern.AbiNoEscape.same) (by kernel_rfl)];rw [Lib.run_noEscape];simp only [Result.andThen];rw [Oper.upon_value];go_wp2
 rw [Lib.run_from_unsafe w ⟨b,0,none⟩ Tryz.underlying325 Tryz.underlying199 hj hsh bldLies];simp only [Result.andThen];rw [Oper.upon_value];go_wp2
 go_end0;exact ⟨rfl,rfl⟩
theorem bld_check (B b:Nat)(bs:List Value)(w:World)(h:Lib.IsBuilder 202 5 B b bs w) :
  Calls Tryz.prog 208 #[.pointer (some ⟨b,0,none⟩)] w fun e w'=>e=.returned (.tuple #[])∧(Lib.BuilderAt 202 5 B b (.pointer (some ⟨b,0,none⟩)) bs w'∧Below B w w'):=by
 rcases h with h | h
 ·refine (bld_check_fresh b w h.cell0 h.shape h.frozen0).mono ?_;rintro e w' ⟨rfl,rfl⟩;exact ⟨rfl,h.used _,(Below.refl B w).setCell (p:=⟨b,0,none⟩) h.1 _⟩
 ·refine (bld_check_used b w h.cell0).mono ?_;rintro e w' ⟨rfl,rfl⟩;exact ⟨rfl,h,Below.refl B _⟩
theorem isB {B b:Nat}{bs:List Value}{w:World}(h:Lib.BuilderAt 202 5 B b (.pointer (some ⟨b,0,none⟩)) bs w):Lib.IsBuilder 202 5 B b bs w:=Or.inr h
theorem isB0 (w:World):Lib.IsBuilder 202 5 w.heap.size w.heap.size [] (w.alloc (.cells #[.pointer none,.slice none 0 0] 202)):=by
 refine .inl ⟨Nat.le_refl _,.slice none 0 0,?_,World.ownsRow_nil _ _ _ _,by simp [Value.ownBlock]⟩;show (w.heap.push _)[w.heap.size]? =_;simp
set_option maxHeartbeats 2000000 in
set_option maxRecDepth 100000 in
theorem bld_byte (B b:Nat)(bs:List Value)(c:Int)(w:World)(h:Lib.IsBuilder 202 5 B b bs w)(hlen:bs.length + 1≤140737488355328)(hBw:B≤w.heap.size) :
  Calls Tryz.prog 129 #[.pointer (some ⟨b,0,none⟩),.int .u8 c] w fun e w'=>e=.returned .nilIface∧(Lib.BuilderAt 202 5 B b (.pointer (some ⟨b,0,none⟩)) (bs++[.int .u8 c]) w'∧Below B w w'):=by
 obtain ⟨i0,hi,hz0,hz1,hz2⟩:=info_parts byteInfo;go_enter Tryz.func129,Tryz.ntmps129
 go_wp2_with (go_at_call 208;refine (bld_check B b bs _ h).mono ?_)
 rintro e w1 ⟨rfl,h1,hb1⟩;obtain ⟨hB,v,hbk,hown,hne⟩:=h1;have c0:w1.cell? ⟨b,0,none⟩=some (.pointer (some ⟨b,0,none⟩)):=by rw [Lib.cell_of_heap hbk];rfl
 have c1:w1.cell? ⟨b,1,none⟩=some v:=by rw [Lib.cell_of_heap hbk];rfl
 go_wp2_with (at_builtin;refine wpList_append_own _ rfl _ _ 200 rfl B 5 i0 (.int .u8 0) 1 1 Tryz.underlying200 hi hz0 hz1 hz2 rfl (by decide) _ _ _ rfl (hown.alloc _) ⟨w1.heap.size,0,none⟩ 1 1 [.int .u8 c] rfl rfl ?c1 ?c2 ?c3 ?c4 ?c5 ?_)
 case c1 =>
  intro j u hj;match j,hj with
  | 0,hj=>simp at hj;subst hj;simp [Addr.add]
 case c2=>intro u hu;simp at hu;subst hu;rfl
 case c3=>unfold maxLen;omega
 case c4=>omega
 case c5=>have:=hb1.size;simp;omega
 intro v' w2 hown' hgrow _;have hlt:b < w1.heap.size:=by
  rcases Nat.lt_or_ge b w1.heap.size with h' | h'
  ·exact h'
  ·simp [Array.getElem?_eq_none h'] at hbk
 have hb2:w2.heap[b]? =some (.cells #[.pointer (some ⟨b,0,none⟩),v] 202 (0,0)):=by
  rw [hgrow.block b (by simp;omega) (fun e=>hne e.symm),Lib.alloc_old w1 _ b hlt];exact hbk
 have d0:w2.cell? ⟨b,0,none⟩=some (.pointer (some ⟨b,0,none⟩)):=by rw [Lib.cell_of_heap hb2];rfl
 have d1:w2.cell? ⟨b,1,none⟩=some v:=by rw [Lib.cell_of_heap hb2];rfl
 have f1:w2.frozen? ⟨b,1,none⟩=false:=Lib.frozen_of_heap hb2 1;obtain ⟨g,cap,rfl⟩:∃ g cap,v'=.slice (some ⟨g,0,none⟩) (bs.length + 1) cap:=by
  rcases hown'.2 with ⟨_,h0⟩ | ⟨g,cap,cur,hv,_⟩
  ·omega
  ·exact ⟨g,cap,hv⟩
 go_wp2
 go_ret;refine ⟨rfl,?_,?_⟩
 ·exact Lib.BuilderAt.put (T:=202) (e:=5) hB hb2 (bs':=bs++[.int .u8 c]) (by simpa using hown') (by decide)
 ·exact ((hb1.alloc (by have:=hb1.size;omega) _).grown hgrow (by have:=hb1.size;simp;omega) (fun k hk=>(hown.lt k hk).1)).setCell (p:=⟨b,1,none⟩) hB _
set_option maxHeartbeats 2000000 in
set_option maxRecDepth 100000 in
theorem bld_str (B b:Nat)(bs:List Value)(s:ByteArray)(w:World)(h:Lib.IsBuilder 202 5 B b bs w)(hlen:bs.length + s.size≤140737488355328)(hBw:B≤w.heap.size) :
  Calls Tryz.prog 130 #[.pointer (some ⟨b,0,none⟩),.string s] w fun e w'=>e=.returned (.tuple #[.int .i64 s.size,.nilIface])∧(Lib.BuilderAt 202 5 B b (.pointer (some ⟨b,0,none⟩)) (bs++Lib.strCells s) w'∧Below B w w'):=by
 obtain ⟨i0,hi,hz0,hz1,hz2⟩:=info_parts byteInfo;go_enter Tryz.func130,Tryz.ntmps130
 go_wp2_with (go_at_call 208;refine (bld_check B b bs _ h).mono ?_)
 rintro e w1 ⟨rfl,h1,hb1⟩;obtain ⟨hB,v,hbk,hown,hne⟩:=h1;have c0:w1.cell? ⟨b,0,none⟩=some (.pointer (some ⟨b,0,none⟩)):=by rw [Lib.cell_of_heap hbk];rfl
 have c1:w1.cell? ⟨b,1,none⟩=some v:=by rw [Lib.cell_of_heap hbk];rfl
 go_wp2_with (at_builtin;refine Lib.wpList_append_own_string _ rfl _ _ 200 9 rfl B 5 i0 Tryz.underlying200 Tryz.underlying9 hi hz0 hz1 hz2 _ _ _ rfl hown s rfl ?c3 ?c4 ?c5 ?_)
 case c3=>unfold maxLen;omega
 case c4=>omega
 case c5=>have:=hb1.size;omega
 intro v' w2 hown' hgrow _;have hlt:b < w1.heap.size:=by
  rcases Nat.lt_or_ge b w1.heap.size with h' | h'
  ·exact h'
  ·simp [Array.getElem?_eq_none h'] at hbk
 have hb2:w2.heap[b]? =some (.cells #[.pointer (some ⟨b,0,none⟩),v] 202 (0,0)):=by
  rw [hgrow.block b hlt (fun e=>hne e.symm)];exact hbk
 have d0:w2.cell? ⟨b,0,none⟩=some (.pointer (some ⟨b,0,none⟩)):=by rw [Lib.cell_of_heap hb2];rfl
 have d1:w2.cell? ⟨b,1,none⟩=some v:=by rw [Lib.cell_of_heap hb2];rfl
 have f1:w2.frozen? ⟨b,1,none⟩=false:=Lib.frozen_of_heap hb2 1;obtain ⟨ao,n',cap,rfl⟩:∃ ao n' cap,v'=.slice ao n' cap:=by
  rcases hown'.2 with ⟨hv,_⟩ | ⟨g,cap,cur,hv,_⟩
  ·exact ⟨_,_,_,hv⟩
  ·exact ⟨_,_,_,hv⟩
 go_wp2
 go_ret2
 refine ⟨rfl,?_,?_⟩
 ·exact Lib.BuilderAt.put (T:=202) (e:=5) hB hb2 (bs':=bs++Lib.strCells s) (by simpa [Lib.strCells_length] using hown') (by decide)
 ·exact (hb1.grown hgrow (by have:=hb1.size;omega) (fun k hk=>(hown.lt k hk).1)).setCell (p:=⟨b,1,none⟩) hB _
end
end Go.Proofs.YtmkkppknaikjjaaGreatDoor
namespace Go.Proofs.YtmkkppknaikjjaaGreatDoor.Q
def hexd (n:Nat):UInt8:=([48,49,50,51,52,53,54,55,56,57,97,98,99,100,101,102]:List UInt8)[n]?.getD 0
def qb (c:UInt8):List UInt8 :=
 if c.toNat=34∨c.toNat=92 then [92,c] else if c.toNat=10 then [92,110] else if c.toNat < 33∨126 < c.toNat then [92,120,hexd (c.toNat / 16),hexd (c.toNat % 16)] else [c]
def quote (l:List UInt8):List UInt8:=34::(l.flatMap qb++[34])
theorem qb_len (c:UInt8):1≤(qb c).length∧(qb c).length≤4:=by
 unfold qb;repeat' split
 all_goals simp
theorem flat_len (l:List UInt8):(l.flatMap qb).length≤4 * l.length:=by
 induction l with
 | nil=>simp
 | cons c l ih=>have:=qb_len c;simp only [List.flatMap_cons,List.length_append,List.length_cons];omega
theorem take_flat (l:List UInt8)(k:Nat)(h:k < l.length):(l.take (k + 1)).flatMap qb=(l.take k).flatMap qb++qb l[k]:=by
 rw [List.take_succ_eq_append_getElem h,List.flatMap_append];simp
def hexs:List UInt8:=[48,49,50,51,52,53,54,55,56,57,97,98,99,100,101,102]
def hv (c:UInt8):Int:=Lib.indexByte hexs c
def hidI (n:Int):Prop:=(n < 33∧n≠10)∨127≤n
instance (n:Int):Decidable (hidI n):=by unfold hidI;infer_instance
def run (step:List UInt8→Option (UInt8×Nat))(l:List UInt8):Nat→Nat→List UInt8→Option (List UInt8×Nat)
 | 0,_,_=>none
 | f + 1,i,acc =>
  match l.drop i with
  | []=>none
  | c::r=>if c.toNat=34 then some (acc,i + 1) else match step (c::r) with
   | none=>none
   | some (x,n)=>run step l f (i + n) (acc++[x])
end Go.Proofs.YtmkkppknaikjjaaGreatDoor.Q
namespace Go.Proofs.YtmkkppknaikjjaaGreatDoor
section
open Go.RowKit
theorem hidden_yes (n:Int)(w:World)(h:(n < 33∧n≠10)∨127≤n) :
  Calls Tryz.prog 131 #[.int .u8 n] w fun e w'=>e=.returned (.bool true)∧w=w':=by
 rcases h with ⟨h1,h2⟩ | h1
 ·have h3:(n != 10)=true:=by simpa using h2
  clear h2;go_enter Tryz.func131,Tryz.ntmps131
  go_wp2
  go_ret;exact ⟨rfl,rfl⟩
 ·go_enter Tryz.func131,Tryz.ntmps131
  go_wp2
  go_ret;exact ⟨rfl,rfl⟩
theorem hidden_no (n:Int)(w:World)(h:¬ ((n < 33∧n≠10)∨127≤n)) :
  Calls Tryz.prog 131 #[.int .u8 n] w fun e w'=>e=.returned (.bool false)∧w=w':=by
 by_cases hn:n=10
 ·subst hn;clear h;go_enter Tryz.func131,Tryz.ntmps131
  go_wp2
  go_ret;exact ⟨rfl,rfl⟩
 ·have h1:¬ n < 33:=by omega
  have h2:¬ 127≤n:=by omega
  clear h hn;go_enter Tryz.func131,Tryz.ntmps131
  go_wp2
  go_ret;exact ⟨rfl,rfl⟩
def QRel (B b:Nat)(l:List UInt8)(w:World)(k:Nat)(wr:World):Prop :=
 Lib.IsBuilder 202 5 B b (Lib.byteCells (34::(l.take k).flatMap Q.qb)) wr∧Below B w wr
theorem QRel.mk {B b:Nat}{l:List UInt8}{w wr wn:World}{k:Nat}(hk:k < l.length)(h:QRel B b l w k wr)(hl:Below B wr wn)(t:List UInt8)(ht:t=Q.qb l[k])
  (hb:Lib.BuilderAt 202 5 B b (.pointer (some ⟨b,0,none⟩)) (Lib.byteCells (34::(l.take k).flatMap Q.qb)++Lib.byteCells t) wn):QRel B b l w (k + 1) wn:=by
 refine ⟨.inr ?_,h.2.trans hl⟩;rw [Q.take_flat l k hk,← ht];simpa [Lib.byteCells] using hb
theorem byteCells_len (l:List UInt8):(Lib.byteCells l).length=l.length:=by simp [Lib.byteCells]
theorem qrel_len (l:List UInt8)(k:Nat)(h:k≤l.length):(Lib.byteCells (34::(l.take k).flatMap Q.qb)).length≤4 * l.length + 1:=by
 have h1:=Q.flat_len (l.take k);have h2:(l.take k).length≤l.length:=by simp;omega
 rw [byteCells_len,List.length_cons];omega
theorem hex_at (n:Nat)(h:n < (ByteArray.mk #[48,49,50,51,52,53,54,55,56,57,97,98,99,100,101,102]).size):(ByteArray.mk #[48,49,50,51,52,53,54,55,56,57,97,98,99,100,101,102])[n]'h=Q.hexd n:=by
 have h':n < 16:=h;obtain rfl | rfl | rfl | rfl | rfl | rfl | rfl | rfl | rfl | rfl | rfl | rfl | rfl | rfl | rfl | rfl:n=0∨n=1∨n=2∨n=3∨n=4∨n=5∨n=6∨n=7∨n=8∨n=9∨n=10∨n=11∨n=12∨n=13∨n=14∨n=15:=by omega
 all_goals rfl
set_option maxHeartbeats 1000000 in
set_option maxRecDepth 100000 in
theorem quote_any (s:ByteArray)(w:World)(hs:s.size≤1000000000) :
  Calls Tryz.prog 64 #[.string s] w fun e w'=>e=.returned (.string ⟨(Q.quote s.data.toList).toArray⟩)∧Below w.heap.size w w':=by
 have Hb0:=Lib.hid (isB0 w);have Hl0:Hid (Below w.heap.size w (w.alloc (.cells #[.pointer none,.slice none 0 0] 202))):=(Below.refl _ _).alloc (Nat.le_refl _) _;have hsl:s.data.toList.length=s.size:=rfl;have Hsl:=Lib.hid hsl;clear hsl;go_enter Tryz.func64,Tryz.ntmps64
 go_wp2_with fail
 refine (bld_byte w.heap.size w.heap.size [] _ _ Hb0.out (by simp) (by simp)).mono ?_;rintro e w1 ⟨rfl,hb1,hl1⟩;clear Hb0;have Hr1:QRel w.heap.size w.heap.size s.data.toList w 0 w1:=⟨.inr (by simpa [Lib.byteCells] using hb1),Hl0.out.trans hl1⟩;clear hb1 hl1 Hl0;go_wp2_with fail
 go_loopw [9] (fun i wr=>∃ k:Nat,k≤s.size∧i=.int .i64 k∧QRel w.heap.size w.heap.size s.data.toList w k wr) (fun i _=>s.size - (intOf i).toNat)
 case atStart=>exact ⟨0,Nat.zero_le _,rfl,Hr1⟩
 case round =>
  obtain ⟨k,hk,rfl,hr⟩:=hrel;clear Hr1;have hsz:w.heap.size≤wr.heap.size:=hr.2.size;have hlen:=qrel_len s.data.toList k (by rw [Hsl.out];exact hk);rw [Hsl.out] at hlen;have Hb:=Lib.hid hr.1;by_cases hlt:k < s.size
  ·have c1:(s[k].toNat:Int) < 256:=by have:=s[k].toNat_lt;omega
   have Hq:Hid (∀ t:List UInt8,t=Q.qb s[k]→∀ wn,Below w.heap.size wr wn→Lib.BuilderAt 202 5 w.heap.size w.heap.size (.pointer (some ⟨w.heap.size,0,none⟩)) (Lib.byteCells (34::(s.data.toList.take k).flatMap Q.qb)++Lib.byteCells t) wn→QRel w.heap.size w.heap.size s.data.toList w (k + 1) wn) :=
    fun t ht wn hl hb=>QRel.mk (by rw [Hsl.out];exact hlt) hr hl t (by rw [ht];rfl) hb
   clear hr;by_cases hA:s[k].toNat=34∨s[k].toNat=92
   ·have HA:=Lib.hid hA;have Hqb:Hid ([92,s[k]]=Q.qb s[k]):=by show _=_;rw [Q.qb,if_pos hA]
    rcases hA with hA | hA
    ·have e1:((s[k].toNat:Int)==34)=true:=by simp [hA]
     clear hA;go_wp2_with fail
     refine (bld_byte w.heap.size w.heap.size _ _ _ Hb.out (by (repeat (first | rw [List.length_append] | rw [List.length_cons] | rw [List.length_nil] | rw [Lib.strCells_length]));first | omega | (simp only [ByteArray.size,List.size_toArray,List.length_cons,List.length_nil];omega)) (by omega)).mono ?_;rintro e w2 ⟨rfl,hb_w2,hl_w2⟩;have hz_w2:=hl_w2.size;go_wp2_with fail
     refine (bld_byte w.heap.size w.heap.size _ _ _ (isB hb_w2) (by (repeat (first | rw [List.length_append] | rw [List.length_cons] | rw [List.length_nil] | rw [Lib.strCells_length]));first | omega | (simp only [ByteArray.size,List.size_toArray,List.length_cons,List.length_nil];omega)) (by omega)).mono ?_;rintro e w3 ⟨rfl,hb_w3,hl_w3⟩;have hz_w3:=hl_w3.size;go_wp2_with fail
     go_roundw
     case rel=>exact ⟨k + 1,by omega,by go_num,Hq.out _ Hqb.out _ (hl_w2.trans hl_w3) (by simpa [Lib.byteCells] using hb_w3)⟩
     case measure=>simp [intOf];omega
    ·have e1:((s[k].toNat:Int)==34)=false:=by simp [hA]
     have e2:((s[k].toNat:Int)==92)=true:=by simp [hA]
     clear hA;go_wp2_with fail
     refine (bld_byte w.heap.size w.heap.size _ _ _ Hb.out (by (repeat (first | rw [List.length_append] | rw [List.length_cons] | rw [List.length_nil] | rw [Lib.strCells_length]));first | omega | (simp only [ByteArray.size,List.size_toArray,List.length_cons,List.length_nil];omega)) (by omega)).mono ?_;rintro e w2 ⟨rfl,hb_w2,hl_w2⟩;have hz_w2:=hl_w2.size;go_wp2_with fail
     refine (bld_byte w.heap.size w.heap.size _ _ _ (isB hb_w2) (by (repeat (first | rw [List.length_append] | rw [List.length_cons] | rw [List.length_nil] | rw [Lib.strCells_length]));first | omega | (simp only [ByteArray.size,List.size_toArray,List.length_cons,List.length_nil];omega)) (by omega)).mono ?_;rintro e w3 ⟨rfl,hb_w3,hl_w3⟩;have hz_w3:=hl_w3.size;go_wp2_with fail
     go_roundw
     case rel=>exact ⟨k + 1,by omega,by go_num,Hq.out _ Hqb.out _ (hl_w2.trans hl_w3) (by simpa [Lib.byteCells] using hb_w3)⟩
     case measure=>simp [intOf];omega
   ·have e1:((s[k].toNat:Int)==34)=false:=by simp;omega
    have e2:((s[k].toNat:Int)==92)=false:=by simp;omega
    by_cases hB:s[k].toNat=10
    ·have e3:((s[k].toNat:Int)==10)=true:=by simp [hB]
     have Hqb:Hid ([92,110]=Q.qb s[k]):=by show _=_;rw [Q.qb,if_neg hA,if_pos hB]
     clear hA hB;go_wp2_with fail
     refine (bld_str w.heap.size w.heap.size _ _ _ Hb.out (by (repeat (first | rw [List.length_append] | rw [List.length_cons] | rw [List.length_nil] | rw [Lib.strCells_length]));first | omega | (simp only [ByteArray.size,List.size_toArray,List.length_cons,List.length_nil];omega)) (by omega)).mono ?_;rintro e w2 ⟨rfl,hb_w2,hl_w2⟩;have hz_w2:=hl_w2.size;go_wp2_with fail
     go_roundw
     case rel=>exact ⟨k + 1,by omega,by go_num,Hq.out _ Hqb.out _ hl_w2 (by simpa [Lib.byteCells,Lib.strCells] using hb_w2)⟩
     case measure=>simp [intOf];omega
    ·have e3:((s[k].toNat:Int)==10)=false:=by simp;omega
     by_cases hC:s[k].toNat < 33∨126 < s[k].toNat
     ·have Hqb:Hid ([92,120,Q.hexd (s[k].toNat / 16),Q.hexd (s[k].toNat % 16)]=Q.qb s[k]):=by show _=_;rw [Q.qb,if_neg hA,if_neg hB,if_pos hC]
      have hh:(((s[k].toNat:Int) < 33∧(s[k].toNat:Int)≠10)∨127≤(s[k].toNat:Int)):=by omega
      have Hh:=Lib.hid hh;clear hA hB hC hh;go_wp2_with fail
      refine (hidden_yes _ _ Hh.out).mono ?_;rintro e wx ⟨rfl,rfl⟩;go_wp2_with fail
      refine (bld_str w.heap.size w.heap.size _ _ _ Hb.out (by (repeat (first | rw [List.length_append] | rw [List.length_cons] | rw [List.length_nil] | rw [Lib.strCells_length]));first | omega | (simp only [ByteArray.size,List.size_toArray,List.length_cons,List.length_nil];omega)) (by omega)).mono ?_;rintro e w2 ⟨rfl,hb_w2,hl_w2⟩;have hz_w2:=hl_w2.size;go_wp2_with fail
      rw [hex_at];go_wp2_with fail
      refine (bld_byte w.heap.size w.heap.size _ _ _ (isB hb_w2) (by (repeat (first | rw [List.length_append] | rw [List.length_cons] | rw [List.length_nil] | rw [Lib.strCells_length]));first | omega | (simp only [ByteArray.size,List.size_toArray,List.length_cons,List.length_nil];omega)) (by omega)).mono ?_;rintro e w3 ⟨rfl,hb_w3,hl_w3⟩;have hz_w3:=hl_w3.size;go_wp2_with fail
      rw [hex_at];go_wp2_with fail
      refine (bld_byte w.heap.size w.heap.size _ _ _ (isB hb_w3) (by (repeat (first | rw [List.length_append] | rw [List.length_cons] | rw [List.length_nil] | rw [Lib.strCells_length]));first | omega | (simp only [ByteArray.size,List.size_toArray,List.length_cons,List.length_nil];omega)) (by omega)).mono ?_;rintro e w4 ⟨rfl,hb_w4,hl_w4⟩;have hz_w4:=hl_w4.size;go_wp2_with fail
      go_roundw
      case rel=>exact ⟨k + 1,by omega,by go_num,Hq.out _ Hqb.out _ ((hl_w2.trans hl_w3).trans hl_w4) (by simpa [Lib.byteCells,Lib.strCells] using hb_w4)⟩
      case measure=>simp [intOf];omega
     ·have Hqb:Hid ([s[k]]=Q.qb s[k]):=by show _=_;rw [Q.qb,if_neg hA,if_neg hB,if_neg hC]
      have hh:¬ (((s[k].toNat:Int) < 33∧(s[k].toNat:Int)≠10)∨127≤(s[k].toNat:Int)):=by omega
      have Hh:=Lib.hid hh;clear hA hB hC hh;go_wp2_with fail
      refine (hidden_no _ _ Hh.out).mono ?_;rintro e wx ⟨rfl,rfl⟩;go_wp2_with fail
      refine (bld_byte w.heap.size w.heap.size _ _ _ Hb.out (by (repeat (first | rw [List.length_append] | rw [List.length_cons] | rw [List.length_nil] | rw [Lib.strCells_length]));first | omega | (simp only [ByteArray.size,List.size_toArray,List.length_cons,List.length_nil];omega)) (by omega)).mono ?_;rintro e w2 ⟨rfl,hb_w2,hl_w2⟩;have hz_w2:=hl_w2.size;go_wp2_with fail
      go_roundw
      case rel=>exact ⟨k + 1,by omega,by go_num,Hq.out _ Hqb.out _ hl_w2 (by simpa [Lib.byteCells] using hb_w2)⟩
      case measure=>simp [intOf];omega
  ·have hke:s.data.toList.take k=s.data.toList:=List.take_of_length_le (by rw [Hsl.out];omega);have hr2:=hr.2;rw [hke] at Hb hlen;clear hke hr;go_wp2_with fail
   refine (bld_byte w.heap.size w.heap.size _ _ _ Hb.out (by (repeat (first | rw [List.length_append] | rw [List.length_cons] | rw [List.length_nil] | rw [Lib.strCells_length]));first | omega | (simp only [ByteArray.size,List.size_toArray,List.length_cons,List.length_nil];omega)) (by omega)).mono ?_;rintro e w2 ⟨rfl,hb_w2,hl_w2⟩;have hz_w2:=hl_w2.size;go_wp2_with fail
   refine (Tryz.Builder_String w.heap.size w.heap.size (Q.quote s.data.toList) _ (isB (by simpa [Lib.byteCells,Q.quote] using hb_w2)) (by simp [Q.quote])).mono ?_;rintro e w3 ⟨rfl,hl3⟩;go_wp2
   go_ret;exact ⟨rfl,(hr2.trans hl_w2).trans hl3⟩
end
section
open Go.RowKit
def pts:Nat→ByteArray→List Int
 | 0,_=>[]
 | f + 1,s=>if s.size=0 then [] else
  (if (Lib.decodeGo s).1=65533∧(Lib.decodeGo s).2=1 then -1 - ((s[0]?.map UInt8.toNat).getD 0:Int) else (Lib.decodeGo s).1)::pts f (s.extract (Lib.decodeGo s).2 s.size)
theorem pts_nil (f:Nat)(s:ByteArray)(h:s.size=0):pts f s=[]:=by cases f <;> simp [pts,h]
theorem pts_cons (f:Nat)(s:ByteArray)(h:0 < s.size):pts (f + 1) s=(if (Lib.decodeGo s).1=65533∧(Lib.decodeGo s).2=1 then -1 - (s[0].toNat:Int) else (Lib.decodeGo s).1)::pts f (s.extract (Lib.decodeGo s).2 s.size):=by
 have e:s[0]? =some s[0]:=getElem?_pos s 0 h;rw [pts,if_neg (by omega),e];rfl
theorem dec_rng (s:ByteArray)(h:0 < s.size):1≤(Lib.decodeGo s).2∧(Lib.decodeGo s).2≤s.size∧(Lib.decodeGo s).1≤1114111:=by
 refine ⟨?_,Lib.decodeGo_le_size s,?_⟩
 ·unfold Lib.decodeGo;rw [if_neg (by omega)];exact Lib.width_pos s 0
 ·unfold Lib.decodeGo;rw [if_neg (by omega)];exact Lib.rune_le s 0
theorem pts_len:∀ (f:Nat) (s:ByteArray),s.size≤f→(pts f s).length≤s.size
 | 0,s,_=>by simp [pts]
 | f + 1,s,h=>by
  by_cases h0:s.size=0
  ·rw [pts_nil _ _ h0];simp
  ·have hr:=dec_rng s (by omega);have hz:(s.extract (Lib.decodeGo s).2 s.size).size=s.size - (Lib.decodeGo s).2:=by rw [ByteArray.size_extract];omega
   have:=pts_len f (s.extract (Lib.decodeGo s).2 s.size) (by omega)
   rw [pts_cons _ _ (by omega),List.length_cons];omega
def GivesI32 (l:List Int)(w:World)(e:Ending)(w':World):Prop:=∃ v,e=.returned v∧w'.ownsRow w.heap.size 21 1 v l.length (l.map (Value.int .i32))∧Below w.heap.size w w'
theorem tyI32:STy 197 21 1 4 (.int .i32 0):=⟨Tryz.underlying197,by kernel_rfl,rfl,by decide⟩
abbrev Tabs (w:World):Prop:=Lib.Utf8Tabs 3 4 w
set_option maxHeartbeats 1000000 in
set_option maxRecDepth 100000 in
theorem points_any (s:ByteArray)(w:World)(hs:s.size≤1000000)(hT:Tabs w) :
  Calls Tryz.prog 128 #[.string s] w (GivesI32 (pts s.size s) w):=by
 have HT:=Lib.hid hT;clear hT;go_enter Tryz.func128,Tryz.ntmps128
 go_wp2_with fail
 go_loopw [0,3] (fun r v wr=>∃ (acc:List Int) (f:Nat) (rest:ByteArray),r=.string rest∧rest.size≤f∧acc.length + rest.size≤s.size∧acc++pts f rest=pts s.size s∧wr.ownsRow w.heap.size 21 1 v acc.length (acc.map (Value.int .i32))∧Below w.heap.size w wr) (fun r _ _=>match r with | .string t=>t.size | _=>0)
 case atStart=>exact ⟨[],s.size,s,rfl,Nat.le_refl _,by simp,rfl,World.ownsRow_nil _ _ _ _,Below.refl _ _⟩
 case round =>
  obtain ⟨acc,f,rest,rfl,hf,hlen,hacc,hown,hbl⟩:=hrel;have Hacc:=Lib.hid hacc;have Hown:=Lib.hid hown;clear hacc hown;have hsz:=hbl.size;rcases Nat.eq_zero_or_pos rest.size with h0 | h0
  ·have n1:=(str_nil h0).1;have n2:=(str_nil h0).2;have Hv:Hid (acc=pts s.size s):=by show _=_;rw [← Hacc.out,pts_nil _ _ h0,List.append_nil]
   clear h0;go_wp2_with fail
   go_ret;exact ⟨u3,rfl,by rw [← Hv.out];exact Hown.out,hbl⟩
  ·have n1:=(str_ne h0).1;have n2:=(str_ne h0).2;have hd:=dec_rng rest h0;obtain ⟨g,rfl⟩:∃ g,f=g + 1:=⟨f - 1,by omega⟩;have Hp:=Lib.hid (pts_cons g rest h0);have Hdec:Hid (∀ w',Tabs w'→Calls Tryz.prog 207 #[.string rest] w' fun e w''=>e=.returned (.tuple #[.int .i32 (Lib.decodeGo rest).1,.int .i64 (Lib.decodeGo rest).2])∧Below w'.heap.size w' w''):=fun w' h=>Tryz.utf8_DecodeRuneInString rest w' h;obtain ⟨d,Hd⟩:∃ d,Hid (Lib.decodeGo rest=d):=⟨_,Lib.hid rfl⟩;rw [Hd.out] at hd Hp Hdec;obtain ⟨r,n⟩:=d;obtain ⟨hn1,hn2,hr⟩:1≤n∧n≤rest.size∧r≤1114111:=hd;clear Hd;have Hz:Hid ((rest.extract n rest.size).size=rest.size - n):=by show _=_;rw [ByteArray.size_extract];omega
   go_wp2_with fail
   refine (Hdec.out _ (Utf8Tabs_below HT.out (hbl.mono (Nat.le_refl _)))).mono ?_;rintro e w1 ⟨rfl,hl1⟩;have hz1:=hl1.size;clear Hdec;by_cases hbad:r=65533∧n=1
   ·have Hx:Hid (pts (g + 1) rest=(-1 - (rest[0].toNat:Int))::pts g (rest.extract n rest.size)):=by show _=_;rw [Hp.out,if_pos hbad]
    have e1:((r:Int)==65533)=true:=by simp [hbad.1]
    have e2:((n:Int)==1)=true:=by simp [hbad.2]
    have hc:=rest[0].toNat_lt;clear hbad Hp;go_wp2_with (at_builtin;refine app_lit (w0:=w1) tyI32 rfl _ _ rfl w.heap.size _ _ _ _ _ rfl (own_keep Hown.out hl1) rfl rfl (by simp [Value.oneCell']) (by omega) (by omega) (by decide) ?_;intro v' w2 hb2 hg2 hl2 hn2';clear hg2 hn2')
    go_roundw
    case rel=>exact ⟨acc++[-1 - (rest[0].toNat:Int)],g,rest.extract n rest.size,rfl,by rw [Hz.out];omega,by rw [Hz.out,List.length_append];simp;omega,by rw [← Hacc.out,Hx.out];simp,by simpa using hb2,(hbl.trans (hl1.mono (by omega))).trans hl2⟩
    case measure=>simp [Hz.out];omega
   ·have Hx:Hid (pts (g + 1) rest=(r:Int)::pts g (rest.extract n rest.size)):=by show _=_;rw [Hp.out,if_neg hbad]
    clear Hp;by_cases h1:r=65533
    ·have e1:((r:Int)==65533)=true:=by simp [h1]
     have e2:((n:Int)==1)=false:=by simp;omega
     clear hbad h1;go_wp2_with (at_builtin;refine app_lit (w0:=w1) tyI32 rfl _ _ rfl w.heap.size _ _ _ _ _ rfl (own_keep Hown.out hl1) rfl rfl (by simp [Value.oneCell']) (by omega) (by omega) (by decide) ?_;intro v' w2 hb2 hg2 hl2 hn2';clear hg2 hn2')
     go_roundw
     case rel=>exact ⟨acc++[(r:Int)],g,rest.extract n rest.size,rfl,by rw [Hz.out];omega,by rw [Hz.out,List.length_append];simp;omega,by rw [← Hacc.out,Hx.out];simp,by simpa using hb2,(hbl.trans (hl1.mono (by omega))).trans hl2⟩
     case measure=>simp [Hz.out];omega
    ·have e1:((r:Int)==65533)=false:=by simp;omega
     clear hbad h1;go_wp2_with (at_builtin;refine app_lit (w0:=w1) tyI32 rfl _ _ rfl w.heap.size _ _ _ _ _ rfl (own_keep Hown.out hl1) rfl rfl (by simp [Value.oneCell']) (by omega) (by omega) (by decide) ?_;intro v' w2 hb2 hg2 hl2 hn2';clear hg2 hn2')
     go_roundw
     case rel=>exact ⟨acc++[(r:Int)],g,rest.extract n rest.size,rfl,by rw [Hz.out];omega,by rw [Hz.out,List.length_append];simp;omega,by rw [← Hacc.out,Hx.out];simp,by simpa using hb2,(hbl.trans (hl1.mono (by omega))).trans hl2⟩
     case measure=>simp [Hz.out];omega
def far (a b:ByteArray):Nat:=D.pre (pts a.size a) (pts b.size b) (pts a.size a).length (pts b.size b).length
theorem distance_any (a b:ByteArray)(w:World)(ha:a.size≤200)(hb:b.size≤200)(hT:Tabs w) :
  Calls Tryz.prog 63 #[.string a,.string b] w fun e w'=>e=.returned (.tuple #[.int .i64 (far a b),.int .i64 0])∧Below w.heap.size w w':=by
 have HT:=Lib.hid hT;clear hT;go_enter Tryz.func63,Tryz.ntmps63
 go_wp2_with fail
 refine (points_any a _ (by omega) HT.out).mono ?_;rintro e w1 ⟨va,rfl,hoa,hl1⟩;have hz1:=hl1.size;have Hoa:=Lib.hid hoa;clear hoa;go_wp2_with fail
 refine (points_any b _ (by omega) (Utf8Tabs_below HT.out hl1)).mono ?_;rintro e w2 ⟨vb,rfl,hob,hl2⟩;have hz2:=hl2.size;have Hob:=Lib.hid hob;clear hob;go_wp2_with fail
 refine (dist_any va vb (pts a.size a) (pts b.size b) _ ((Rd.ofOwn Hoa.out).keep hl2) (Rd.ofOwn Hob.out) (by have:=pts_len a.size a (Nat.le_refl _);omega) (by have:=pts_len b.size b (Nat.le_refl _);omega)).mono ?_;rintro e w3 ⟨rfl,hl3⟩;go_wp2_with fail
 go_ret2
 exact ⟨rfl,(hl1.trans (hl2.mono (by omega))).trans (hl3.mono (by omega))⟩
end
section
open Go.RowKit
def textOk (s:ByteArray):Bool:=Lib.validD s.data.toList && s.data.toList.all L.textByte
def textFault (s:ByteArray):Int:=if 200 < s.size then 2 else if textOk s then 0 else 3
theorem checkText_any (s:ByteArray)(w:World)(hs:s.size≤1000000000)(hT:Tabs w) :
  Calls Tryz.prog 296 #[.string s] w fun e w'=>e=.returned (.int .i64 (textFault s))∧Below w.heap.size w w':=by
 have HT:=Lib.hid hT;clear hT;have Hv:Hid (∀ w,Tabs w→Calls Tryz.prog 330 #[.string s] w fun e w'=>e=.returned (.bool (Lib.validD s.data.toList))∧Below w.heap.size w w'):=fun w h=>Tryz.utf8_ValidString s w (by omega) h;obtain ⟨R,HR⟩:∃ R,Hid (textFault s=R):=⟨_,Lib.hid rfl⟩;rw [HR.out];by_cases h1:200 < s.size
 ·go_enter Tryz.func296,Tryz.ntmps296
  go_wp2_with fail
  go_ret;exact ⟨ret_i (by rw [← HR.out];simp [textFault,h1]),Below.refl _ _⟩
 ·by_cases h2:Lib.validD s.data.toList=true
  ·rw [h2] at Hv;by_cases h3:s.data.toList.all L.textByte=true
   ·go_enter Tryz.func296,Tryz.ntmps296
    go_wp2_with fail
    refine (Hv.out _ HT.out).mono ?_;rintro e w1 ⟨rfl,hl_w1⟩;have hz_w1:=hl_w1.size;go_wp2_with fail
    refine (all_any _ _ checkText1_pb s _ hs (fun _ _=>by kernel_rfl)).mono ?_;rintro e _ ⟨rfl,rfl⟩;rw [h3];go_wp2_with fail
    go_ret;exact ⟨ret_i (by rw [← HR.out,textFault,textOk,if_neg h1,h2,h3];rfl),hl_w1⟩
   ·have h3:s.data.toList.all L.textByte=false:=by simpa using h3
    go_enter Tryz.func296,Tryz.ntmps296
    go_wp2_with fail
    refine (Hv.out _ HT.out).mono ?_;rintro e w1 ⟨rfl,hl_w1⟩;have hz_w1:=hl_w1.size;go_wp2_with fail
    refine (all_any _ _ checkText1_pb s _ hs (fun _ _=>by kernel_rfl)).mono ?_;rintro e _ ⟨rfl,rfl⟩;rw [h3];go_wp2_with fail
    go_ret;exact ⟨ret_i (by rw [← HR.out,textFault,textOk,if_neg h1,h2,h3];rfl),hl_w1⟩
  ·have h2:Lib.validD s.data.toList=false:=by simpa using h2
   rw [h2] at Hv;go_enter Tryz.func296,Tryz.ntmps296
   go_wp2_with fail
   refine (Hv.out _ HT.out).mono ?_;rintro e w1 ⟨rfl,hl_w1⟩;have hz_w1:=hl_w1.size;go_wp2_with fail
   go_ret;exact ⟨ret_i (by rw [← HR.out,textFault,textOk,if_neg h1,h2];rfl),hl_w1⟩
def valueFault (k:Int)(t:ByteArray)(n:Int):Int :=
 if k=1 then (if n≠0 then 3 else textFault t)
 else if k=2 then (if ¬ t.toList=[] then 3 else if -1000000000000≤n∧n≤1000000000000 then 0 else 1)
 else if k=3 then (if ¬ t.toList=[] then 3 else if 0≤n∧n≤1 then 0 else 1)
 else if k=4 then (if ¬ t.toList=[] then 3 else if 0≤n∧n≤4321439 then 0 else 1)
 else 4
theorem checkValue_any (k n:Int)(t:ByteArray)(w:World)(hs:t.size≤1000000000)(hT:Tabs w) :
  Calls Tryz.prog 232 #[.agg #[.int .i64 k,.string t,.int .i64 n]] w fun e w'=>e=.returned (.int .i64 (valueFault k t n))∧Below w.heap.size w w':=by
 have HT:=Lib.hid hT;clear hT;obtain ⟨R,HR⟩:∃ R,Hid (valueFault k t n=R):=⟨_,Lib.hid rfl⟩;rw [HR.out];have Hc:Hid (∀ w',Below w.heap.size w w'→Calls Tryz.prog 296 #[.string t] w' fun e w''=>e=.returned (.int .i64 (textFault t))∧Below w'.heap.size w' w''):=fun w' h=>checkText_any t w' hs (Utf8Tabs_below HT.out h);have Hb:Hid (Below w.heap.size w (w.alloc (.cells #[.int .i64 k,.string t,.int .i64 n] 174))):=(Below.refl _ _).alloc (Nat.le_refl _) _;go_enter Tryz.func232,Tryz.ntmps232
 go_wp2_with (first | (go_at_call 53;refine (within_any _ _ _ _).mono ?_;rintro e _ ⟨rfl,rfl⟩) | (go_at_call 296;refine (Hc.out _ Hb.out).mono ?_;rintro e w1 ⟨rfl,hl_w1⟩))
 all_goals
  go_ret;first
   | refine ⟨ret_i ?_,Hb.out⟩
   | refine ⟨ret_i ?_,Hb.out.trans (hl_w1.mono (by simp))⟩
  rw [← HR.out];unfold valueFault;clear HR Hb Hc HT;simp_all
 all_goals omega
end
section
open Go.RowKit
def cmpS (a b:ByteArray):Int:=if Op.bytesLess a.toList b.toList then -1 else if (a.toList==b.toList) then 0 else 1
theorem isNaN_any (s:ByteArray)(w:World):Calls Tryz.prog 201 #[.string s] w fun e w'=>e=.returned (.bool false)∧w=w':=by
 go_enter Tryz.func201,Tryz.ntmps201
 go_wp2_with fail
 go_ret;exact ⟨by simp,rfl⟩
theorem compareS_any (a b:ByteArray)(w:World):Calls Tryz.prog 122 #[.string a,.string b] w fun e w'=>e=.returned (.int .i64 (cmpS a b))∧w=w':=by
 obtain ⟨R,HR⟩:∃ R,Hid (cmpS a b=R):=⟨_,Lib.hid rfl⟩;rw [HR.out];go_enter Tryz.func122,Tryz.ntmps122
 go_wp2_with (first | (go_at_call 201;refine (isNaN_any _ _).mono ?_;rintro e _ ⟨rfl,rfl⟩))
 all_goals (go_ret;refine ⟨ret_i ?_,rfl⟩;rw [← HR.out];unfold cmpS;clear HR;simp_all)
theorem or_any (blk:Nat)(x y:Int)(w:World)(hx:w.cell? ⟨blk,0,none⟩=some (.int .i64 x))(hy:w.cell? ⟨blk,1,none⟩=some (.int .i64 y)) :
  Calls Tryz.prog 196 #[.slice (some ⟨blk,0,none⟩) 2 2] w fun e w'=>e=.returned (.int .i64 (if x≠0 then x else y))∧w=w':=by
 obtain ⟨R,HR⟩:∃ R,Hid ((if x≠0 then x else y)=R):=⟨_,Lib.hid rfl⟩;rw [HR.out];go_enter Tryz.func196,Tryz.ntmps196
 go_wp2_with fail
 go_loopw [8] (fun i wr=>∃ k:Nat,k≤2∧i=.int .i64 k∧wr=w∧(k=1→x=0)∧(k=2→x=0∧y=0)) (fun i _=>2 - (intOf i).toNat)
 case atStart=>exact ⟨0,by omega,rfl,rfl,fun h=>by omega,fun h=>by omega⟩
 case round =>
  obtain ⟨k,hk,rfl,rfl,h1,h2⟩:=hrel;have H1:=Lib.hid h1;have H2:=Lib.hid h2;clear h1 h2;obtain rfl | rfl | rfl:k=0∨k=1∨k=2:=by omega
  ·by_cases h0:x=0
   ·have e0:(x != 0)=false:=by simpa using h0
    have H0:=Lib.hid h0;clear h0;go_wp2_with fail
    go_roundw
    case rel=>exact ⟨1,by omega,rfl,trivial,fun _=>H0.out,fun h=>by omega⟩
    case measure=>simp [intOf]
   ·have e0:(x != 0)=true:=by simpa using h0
    go_wp2_with fail
    go_ret;exact ⟨ret_i (by rw [← HR.out,if_pos h0]),rfl⟩
  ·have H0:Hid (x=0):=H1.out rfl;by_cases h0:y=0
   ·have e0:(y != 0)=false:=by simpa using h0
    have Hy0:=Lib.hid h0;clear h0;go_wp2_with fail
    go_roundw
    case rel=>exact ⟨2,by omega,rfl,trivial,fun h=>by omega,fun _=>⟨H0.out,Hy0.out⟩⟩
    case measure=>simp [intOf]
   ·have e0:(y != 0)=true:=by simpa using h0
    go_wp2_with fail
    go_ret;exact ⟨ret_i (by rw [← HR.out,if_neg (by simpa using H0.out)]),rfl⟩
  ·have H0:=H2.out rfl;go_wp2_with fail
   go_ret;exact ⟨ret_i (by rw [← HR.out,if_neg (by simpa using H0.1),H0.2]),rfl⟩
theorem cmpInt_any (x y:Int)(w:World):Calls Tryz.prog 60 #[.int .i64 x,.int .i64 y] w fun e w'=>e=.returned (.int .i64 (Lib.compareInt x y))∧w=w':=(Tryz.cmp_Compare_int x y w).mono fun _ _ ⟨h1,h2⟩=>⟨h1,h2.symm⟩
def ltS (a b:ByteArray):Bool:=Op.bytesLess a.toList b.toList
theorem ltS_trans {a b c:ByteArray}(h1:ltS a b=true)(h2:ltS b c=true):ltS a c=true:=by
 unfold ltS at *;have e:∀ x y:List UInt8,Op.bytesLess x y=decide (x < y):=bytesLess_eq;rw [e] at h1 h2 ⊢;simp only [decide_eq_true_eq] at *;exact List.lt_trans h1 h2
theorem cmpS_neg (a b:ByteArray):cmpS a b < 0 ↔ ltS a b=true:=by
 unfold cmpS ltS;split
 ·rename_i h;simp [h]
 ·rename_i h;split <;> simp [h]
theorem ltS_irr (a:ByteArray):ltS a a=false:=by
 unfold ltS;have e:∀ x y:List UInt8,Op.bytesLess x y=decide (x < y):=bytesLess_eq;rw [e];simp
theorem cmpS_zero (a b:ByteArray):cmpS a b=0 ↔ a=b:=by
 constructor
 ·intro h;unfold cmpS at h;split at h
  ·cases h
  ·split at h
   ·rename_i h2;rw [ByteArray.toList_eq,ByteArray.toList_eq] at h2;exact WideShapes.bytes_inj (by simpa using h2)
   ·cases h
 ·rintro rfl;have:=ltS_irr a
  unfold ltS at this;unfold cmpS;rw [this];simp
def leS (a b:ByteArray):Bool:=Op.bytesLess a.toList b.toList || (a.toList==b.toList)
theorem bytes_tri:∀ x y:List UInt8,Op.bytesLess y x=false→(y==x)=false→Op.bytesLess x y=true
 | [],[],_,h=>by simp at h
 | [],_::_,_,_=>by simp [Op.bytesLess]
 | _::_,[],h,_=>by simp [Op.bytesLess] at h
 | a::x,b::y,h1,h2=>by
  simp only [Op.bytesLess,Bool.or_eq_false_iff,decide_eq_false_iff_not,Bool.and_eq_false_iff] at h1;simp only [Op.bytesLess,Bool.or_eq_true,decide_eq_true_eq,Bool.and_eq_true,beq_iff_eq];by_cases hab:a < b
  ·exact .inl hab
  ·have e:a=b:=UInt8.le_antisymm (UInt8.not_lt.1 h1.1) (UInt8.not_lt.1 hab);subst e;refine .inr ⟨rfl,bytes_tri x y ?_ ?_⟩
   ·rcases h1.2 with h | h
    ·simp at h
    ·exact h
   ·simpa using h2
theorem cmpS_pos (a b:ByteArray):0 < cmpS a b ↔ ltS b a=true:=by
 unfold cmpS ltS;split
 ·rename_i h;constructor
  ·intro h2;simp at h2
  ·intro h2;have:=ltS_trans (a:=a) (b:=b) (c:=a) h h2
   rw [ltS_irr] at this;cases this
 ·rename_i h;split
  ·rename_i h2;have e:a=b:=by
    rw [ByteArray.toList_eq,ByteArray.toList_eq] at h2;exact WideShapes.bytes_inj (by simpa using h2)
   subst e;have:=ltS_irr a
   unfold ltS at this;simp [this]
  ·rename_i h2;refine ⟨fun _=>bytes_tri _ _ (by simpa using h) (by simpa using h2),fun _=>by decide⟩
end
section
open Go.RowKit
structure Fld where
 name:ByteArray
 kind:Int
 text:ByteArray
 num:Int
def Fld.cells (f:Fld):List Value:=[.string f.name,.int .i64 f.kind,.string f.text,.int .i64 f.num]
def rFld:Rep Fld:=.flat 4 Fld.cells (fun _=>rfl)
def Fld.small (f:Fld):Prop:=f.name.size≤1000000000∧f.text.size≤1000000000
def fldsGo (prev:Option ByteArray):List Fld→Int
 | []=>0
 | f::r=>if L.isKey f.name=false then 5 else if ¬ valueFault f.kind f.text f.num=0 then valueFault f.kind f.text f.num else
  if prev.any (fun p=>leS f.name p) then 7 else fldsGo (some f.name) r
def fldsFault (l:List Fld):Int:=if 30 < l.length then 2 else fldsGo none l
def prevAt (xs:List Fld)(k:Nat):Option ByteArray:=if k=0 then none else (xs[k - 1]?).map Fld.name
theorem Sl.fld {N:Nat→Prop}{w:World}{A:Option Addr}{xs:List Fld}(h:Sl rFld N w A xs)(k:Nat)(f:Fld)(hk:xs[k]? =some f):∃ blk off,A=some ⟨blk,off,none⟩∧blk < w.heap.size ∧
  w.cell? ⟨blk,off + k * 4,none⟩=some (.string f.name)∧w.cell? ⟨blk,off + k * 4 + 1,none⟩=some (.int .i64 f.kind)∧w.cell? ⟨blk,off + k * 4 + 2,none⟩=some (.string f.text)∧w.cell? ⟨blk,off + k * 4 + 3,none⟩=some (.int .i64 f.num):=by
 obtain ⟨blk,off,l,e,h1,_,h3,h4⟩:=h k f hk;obtain rfl:l=Fld.cells f:=h3;exact ⟨blk,off,e,h1,h4 0 _ rfl,h4 1 _ rfl,h4 2 _ rfl,h4 3 _ rfl⟩
set_option maxHeartbeats 4000000 in
set_option maxRecDepth 100000 in
theorem checkFields_any (N:Nat→Prop)(A:Option Addr)(xs:List Fld)(c:Nat)(w:World)(hS:Sl rFld N w A xs)(hsm:∀ f∈xs,f.small)(hn:xs.length≤1000000000)(hT:Tabs w) :
  Calls Tryz.prog 157 #[.slice A xs.length c] w fun e w'=>e=.returned (.int .i64 (fldsFault xs))∧Below w.heap.size w w':=by
 have HT:=Lib.hid hT;have HS:=Lib.hid hS;have Hsm:=Lib.hid hsm;clear hT hS hsm;obtain ⟨R,HR⟩:∃ R,Hid (fldsFault xs=R):=⟨_,Lib.hid rfl⟩;rw [HR.out];by_cases h30:30 < xs.length
 ·go_enter Tryz.func157,Tryz.ntmps157
  go_wp2_with fail
  go_ret;exact ⟨ret_i (by rw [← HR.out];simp [fldsFault,h30]),Below.refl _ _⟩
 ·have HR2:Hid (fldsGo none xs=R):=by show _=_;rw [← HR.out,fldsFault,if_neg h30]
  clear HR;go_enter Tryz.func157,Tryz.ntmps157
  go_wp2_with fail
  go_loopw [11] (fun i wr=>∃ k:Nat,k≤xs.length∧i=.int .i64 k∧fldsGo (prevAt xs k) (xs.drop k)=R∧Below w.heap.size w wr) (fun i _=>xs.length - (intOf i).toNat)
  case atStart=>exact ⟨0,Nat.zero_le _,rfl,HR2.out,Below.refl _ _⟩
  case round =>
   clear HR2;obtain ⟨k,hk,rfl,hr,hbl⟩:=hrel;have Hr:=Lib.hid hr;clear hr;by_cases hlt:k < xs.length
   ·obtain ⟨f,hf⟩:∃ f,xs[k]? =some f:=⟨_,List.getElem?_eq_getElem hlt⟩;obtain ⟨blk,off,rfl,hblk,c0,c1,c2,c3⟩:=HS.out.fld k f hf;have d0:=(hbl.cell (p:=⟨blk,off + k * 4,none⟩) hblk).trans c0;have d1:=(hbl.cell (p:=⟨blk,off + k * 4 + 1,none⟩) hblk).trans c1;have d2:=(hbl.cell (p:=⟨blk,off + k * 4 + 2,none⟩) hblk).trans c2;have d3:=(hbl.cell (p:=⟨blk,off + k * 4 + 3,none⟩) hblk).trans c3;have hfs1:f.name.size≤1000000000:=And.left (Hsm.out f (List.mem_of_getElem? hf));have hfs2:f.text.size≤1000000000:=And.right (Hsm.out f (List.mem_of_getElem? hf));have Hf:=Lib.hid hf;clear c0 c1 c2 c3 hf;have Hstep:Hid (fldsGo (prevAt xs k) (f::xs.drop (k + 1))=R):=by
     show _=_;rw [← Hr.out,List.drop_eq_getElem_cons hlt];have:xs[k]=f:=by simpa [List.getElem?_eq_getElem hlt] using Hf.out
     rw [this]
    clear Hr;have Hcv:Hid (∀ w',Below w.heap.size w w'→Calls Tryz.prog 232 #[.agg #[.int .i64 f.kind,.string f.text,.int .i64 f.num]] w' fun e w''=>e=.returned (.int .i64 (valueFault f.kind f.text f.num))∧Below w'.heap.size w' w''):=fun w' h=>checkValue_any _ _ _ w' hfs2 (Utf8Tabs_below HT.out h);have Hb1:Hid (Below w.heap.size w (wr.alloc (.cells #[.string f.name,.int .i64 f.kind,.string f.text,.int .i64 f.num] 176))):=hbl.alloc hbl.size _;have hsz:=hbl.size;by_cases h1:L.isKey f.name=true
    ·go_wp2_with fail
     refine (isKey_any f.name _ hfs1).mono ?_;rintro e _ ⟨rfl,rfl⟩;rw [h1];by_cases h2:valueFault f.kind f.text f.num=0
     ·rw [h2] at Hcv;go_wp2_with fail
      refine (Hcv.out _ Hb1.out).mono ?_;rintro e w1 ⟨rfl,hl_w1⟩;have hz_w1:=hl_w1.size;by_cases hk0:k=0
      ·have hk1:decide (0 < k)=false:=by simp;omega
       have Hk0:=Lib.hid hk0;clear hk0 d0 d1 d2 d3 Hcv;go_wp2_with fail
       go_quiet (fail)
       go_wp2_with fail
       go_roundw
       case rel=>exact ⟨k + 1,by omega,by go_num,by rw [← Hstep.out,Hk0.out,fldsGo,h1,h2];simp [prevAt];rw [← Hk0.out,Hf.out];rfl,Hb1.out.trans ((hl_w1.mono (by simp;omega)).trans (below_drewN _ _ _))⟩
       case measure=>simp [intOf];omega
      ·obtain ⟨g,hg⟩:∃ g,xs[k - 1]? =some g:=⟨_,List.getElem?_eq_getElem (by omega)⟩;obtain ⟨_,_,e,_,p0,_,_,_⟩:=HS.out.fld (k - 1) g hg;cases e;obtain ⟨j,rfl⟩:∃ j,k=j + 1:=⟨k - 1,by omega⟩;rw [Nat.add_sub_cancel] at hg p0;have Hg:=Lib.hid hg;have q0:w1.cell? ⟨blk,off + j * 4,none⟩=some (.string g.name):=((Hb1.out.trans (hl_w1.mono (by simp;omega))).cell (p:=⟨blk,off + j * 4,none⟩) hblk).trans p0;have q1:w1.cell? ⟨wr.heap.size,0,none⟩=some (.string f.name):=by rw [hl_w1.cell (p:=⟨wr.heap.size,0,none⟩) (by simp),World.cell?_alloc_at _ _ _ _ rfl];rfl
       clear hg p0 hk0 d0 d1 d2 d3;go_wp2_with fail
       have hk1:decide ((0:Int) < ((j + 1:Nat):Int))=true:=by simp
       have hk2:((j + 1:Nat):Int) - 1=(j:Int):=by omega
       clear Hcv;go_quiet (fail)
       go_wp2_with fail
       ·have hle:leS f.name g.name=true:=by
         have h:Op.bytesLess f.name.toList g.name.toList=true∨(f.name.toList==g.name.toList)=true:=by assumption
         unfold leS;rw [Bool.or_eq_true];exact h
        go_ret;exact ⟨ret_i (by rw [← Hstep.out,fldsGo,h1,h2];simp [prevAt,Hg.out,hle]),Hb1.out.trans ((hl_w1.mono (by simp;omega)).trans (below_drewN _ _ _))⟩
       ·have hle:Hid (leS f.name g.name=false):=by
         have h:Op.bytesLess f.name.toList g.name.toList=false∧(f.name.toList==g.name.toList)=false:=by assumption
         show leS _ _=_;unfold leS;rw [h.1,h.2];rfl
        go_roundw
        case rel=>exact ⟨j + 1 + 1,by omega,by go_num,by rw [← Hstep.out,fldsGo,h1,h2];simp [prevAt,Hg.out,Hf.out,hle.out],Hb1.out.trans ((hl_w1.mono (by simp;omega)).trans (below_drewN _ _ _))⟩
        case measure=>simp [intOf];omega
     ·go_wp2_with fail
      refine (Hcv.out _ Hb1.out).mono ?_;rintro e w1 ⟨rfl,hl_w1⟩;have hz_w1:=hl_w1.size;go_wp2_with fail
      go_ret;exact ⟨ret_i (by rw [← Hstep.out,fldsGo,h1];simp [h2]),Hb1.out.trans (hl_w1.mono (by simp;omega))⟩
    ·have h1:L.isKey f.name=false:=by simpa using h1
     go_wp2_with fail
     refine (isKey_any f.name _ hfs1).mono ?_;rintro e _ ⟨rfl,rfl⟩;rw [h1];go_wp2_with fail
     go_ret;exact ⟨ret_i (by rw [← Hstep.out,fldsGo,h1];simp),Hb1.out⟩
   ·go_wp2_with fail
    go_ret;exact ⟨ret_i (by rw [← Hr.out,List.drop_eq_nil_of_le (by omega)];rfl),hbl⟩
end
section
open Go.RowKit
def idCmp (k1:Int)(t1:ByteArray)(k2:Int)(t2:ByteArray):Int:=if k1 < k2 then -1 else if k1=k2 then cmpS t1 t2 else 1
def TwoIds (X Y:Nat)(k1:Int)(t1:ByteArray)(k2:Int)(t2:ByteArray)(w:World):Prop:=LV w X #[.int .i64 k1,.string t1] 46∧LV w Y #[.int .i64 k2,.string t2] 46
set_option maxHeartbeats 2000000 in
set_option maxRecDepth 100000 in
theorem compareIds_any (k1 k2:Int)(t1 t2:ByteArray)(w:World) :
  Calls Tryz.prog 116 #[.agg #[.int .i64 k1,.string t1],.agg #[.int .i64 k2,.string t2]] w fun e w'=>e=.returned (.int .i64 (idCmp k1 t1 k2 t2))∧Below w.heap.size w w':=by
 obtain ⟨R,HR⟩:∃ R,Hid (idCmp k1 t1 k2 t2=R):=⟨_,Lib.hid rfl⟩;rw [HR.out];have lv1:=(LV.new w w.heap.size #[.int .i64 k1,.string t1] 46 rfl).alloc (.cells #[.int .i64 k2,.string t2] 46);have lv2:=LV.new (w.alloc (.cells #[.int .i64 k1,.string t1] 46)) (w.heap.size + 1) #[.int .i64 k2,.string t2] 46 (by simp);have Hb:Hid (Below w.heap.size w ((w.alloc (.cells #[.int .i64 k1,.string t1] 46)).alloc (.cells #[.int .i64 k2,.string t2] 46))):=((Below.refl _ _).alloc (Nat.le_refl _) _).alloc (by simp) _;go_enter Tryz.func116,Tryz.ntmps116
 go_wp2_with fail
 refine wp_region_mix (TwoIds w.heap.size (w.heap.size + 1) k1 t1 k2 t2) [(true,0),(true,1),(true,2),(true,3),(true,5),(true,6),(true,7),(true,8),(false,4),(false,9),(false,10),(false,11),(true,12)] (by kernel_rfl) (by kernel_rfl) (fun w' hd=>⟨lv1.keep (SK.ofBelow (b:=w.heap.size + 2) (hd.below _)) (by omega),lv2.keep (SK.ofBelow (b:=w.heap.size + 2) (hd.below _)) (by omega)⟩) (fun KK hKK wd hd_wd=>?_);have hC:TwoIds w.heap.size (w.heap.size + 1) k1 t1 k2 t2 wd:=⟨lv1.keep (SK.ofBelow (b:=w.heap.size + 2) (hd_wd.below _)) (by omega),lv2.keep (SK.ofBelow (b:=w.heap.size + 2) (hd_wd.below _)) (by omega)⟩;have Hbd:Hid (Below w.heap.size w wd):=Hb.out.trans (hd_wd.below _);clear lv1 lv2 Hb hd_wd;refine mpR ?_;refine mix_load (.int .i64 k1) rfl rfl rfl rfl (fun _=>rfl) (fun w' h=>h.1.cell 0 _ rfl) ?_;refine mpR ?_;refine mix_load (.int .i64 k2) rfl rfl rfl rfl (fun _=>rfl) (fun w' h=>h.2.cell 0 _ rfl) ?_;refine mpR ?_;refine mix_load (.string t1) rfl rfl rfl rfl (fun _=>rfl) (fun w' h=>h.1.cell 1 _ rfl) ?_;refine mpR ?_;refine mix_load (.string t2) rfl rfl rfl rfl (fun _=>rfl) (fun w' h=>h.2.cell 1 _ rfl) ?_;refine mix_l rfl (fun K hK=>?_) hC;go_wp2_with fail
 refine (cmpInt_any k1 k2 _).mono ?_;rintro e _ ⟨rfl,rfl⟩;go_wp2_with fail
 refine ⟨hC,?_⟩;refine mix_l rfl (fun K hK=>?_) hC;go_wp2_with fail
 refine (compareS_any t1 t2 _).mono ?_;rintro e _ ⟨rfl,rfl⟩;go_wp2_with fail
 refine ⟨hC,?_⟩;refine mix_l rfl (fun K hK=>?_) hC;go_wp2_with fail
 have hC2:TwoIds w.heap.size (w.heap.size + 1) k1 t1 k2 t2 (wd.alloc (.cells #[.int .i64 (Lib.compareInt k1 k2),.int .i64 (cmpS t1 t2)] 3)):=⟨hC.1.alloc _,hC.2.alloc _⟩;refine ⟨hC2,?_⟩;refine mix_l rfl (fun K hK=>?_) hC2;have c0:(wd.alloc (.cells #[.int .i64 (Lib.compareInt k1 k2),.int .i64 (cmpS t1 t2)] 3)).cell? ⟨wd.heap.size,0,none⟩=some (.int .i64 (Lib.compareInt k1 k2)):=by rw [World.cell?_alloc_at _ _ _ _ rfl];rfl
 have c1:(wd.alloc (.cells #[.int .i64 (Lib.compareInt k1 k2),.int .i64 (cmpS t1 t2)] 3)).cell? ⟨wd.heap.size,1,none⟩=some (.int .i64 (cmpS t1 t2)):=by rw [World.cell?_alloc_at _ _ _ _ rfl];rfl
 have Hor:=Lib.hid (or_any wd.heap.size _ _ _ c0 c1);clear c0 c1;have HR2:Hid ((if Lib.compareInt k1 k2≠0 then Lib.compareInt k1 k2 else cmpS t1 t2)=R):=by
  show _=_;rw [← HR.out,idCmp,Lib.compareInt];by_cases h1:k1 < k2
  ·simp [h1]
  ·by_cases h2:k1=k2
   ·simp [h2]
   ·have h3:k2 < k1:=by omega
    simp [h1,h2,h3]
 rw [HR2.out] at Hor;clear HR HR2;go_wp2_with fail
 refine (Hor.out).mono ?_;rintro e _ ⟨rfl,rfl⟩;go_wp2_with fail
 refine ⟨hC2,?_⟩;refine mpR ?_;refine mix_nil ?_;simp only [Exit.then];refine hKK _ _ ?_;go_wp2_with fail
 go_ret;exact ⟨rfl,Hbd.out.alloc Hbd.out.size _⟩
set_option maxHeartbeats 2000000 in
set_option maxRecDepth 100000 in
theorem order_any (k1 k2:Int)(t1 t2:ByteArray)(w:World) :
  Calls Tryz.prog 78 #[.agg #[.int .i64 k1,.string t1],.agg #[.int .i64 k2,.string t2]] w fun e w'=>e=.returned (.int .i64 (idCmp k1 t1 k2 t2))∧Below w.heap.size w w':=by
 by_cases hk:k1=k2
 ·subst hk;obtain ⟨R,HR⟩:∃ R,Hid (idCmp k1 t1 k1 t2=R):=⟨_,Lib.hid rfl⟩;rw [HR.out];have Hb:Hid (Below w.heap.size w ((w.alloc (.cells #[.int .i64 k1,.string t1] 46)).alloc (.cells #[.int .i64 k1,.string t2] 46))):=((Below.refl _ _).alloc (Nat.le_refl _) _).alloc (by simp) _;go_enter Tryz.func78,Tryz.ntmps78
  go_wp2_with fail
  all_goals (go_ret;refine ⟨ret_i ?_,Hb.out⟩;rw [← HR.out];unfold idCmp cmpS;clear HR Hb;simp_all)
 ·have hk':(k1==k2)=false:=by simpa using hk
  obtain ⟨R,HR⟩:∃ R,Hid (idCmp k1 t1 k2 t2=R):=⟨_,Lib.hid rfl⟩;rw [HR.out];have Hb:Hid (Below w.heap.size w ((w.alloc (.cells #[.int .i64 k1,.string t1] 46)).alloc (.cells #[.int .i64 k2,.string t2] 46))):=((Below.refl _ _).alloc (Nat.le_refl _) _).alloc (by simp) _;go_enter Tryz.func78,Tryz.ntmps78
  go_wp2_with fail
  all_goals
   go_ret;refine ⟨ret_i ?_,Hb.out⟩;rw [← HR.out];unfold idCmp;first
    | (rw [if_pos (by assumption)];done)
    | (rw [if_neg (by omega),if_neg hk];done)
end
section
open Go.RowKit
end
section
open Go.RowKit
end
end Go.Proofs.YtmkkppknaikjjaaGreatDoor
namespace Go.Proofs.YtmkkppknaikjjaaGreatDoor.D
def levRow (f:List Int→Nat)(x:Int)(n:Nat):List Int→Nat
 | []=>n
 | y::b=>if x=y then f b else 1 + min (min (f b) (f (y::b))) (levRow f x n b)
def lev:List Int→List Int→Nat
 | []=>fun b=>b.length
 | x::a=>levRow (lev a) x (a.length + 1)
theorem lev_nil' (a:List Int):lev a []=a.length:=by cases a <;> rfl
theorem lev_cons (x y:Int)(a b:List Int):lev (x::a) (y::b)=if x=y then lev a b else 1 + min (min (lev a b) (lev a (y::b))) (lev (x::a) b):=rfl
abbrev Al:=List (Option Int×Option Int)
def one (p:Option Int×Option Int):Nat:=match p with | (some x,some y)=>if x=y then 0 else 1 | _=>1
def cost (t:Al):Nat:=(t.map one).sum
def lft (t:Al):List Int:=t.filterMap (·.1)
def rgt (t:Al):List Int:=t.filterMap (·.2)
theorem ex_del:∀ a:List Int,∃ t:Al,lft t=a∧rgt t=[]∧cost t=a.length
 | []=>⟨[],rfl,rfl,rfl⟩
 | x::a=>by
  obtain ⟨t,h1,h2,h3⟩:=ex_del a;exact ⟨(some x,none)::t,by simp [lft] at *;exact h1,by simp [rgt] at *;exact h2,by simp [cost,one] at *;omega⟩
theorem ex_ins:∀ b:List Int,∃ t:Al,lft t=[]∧rgt t=b∧cost t=b.length
 | []=>⟨[],rfl,rfl,rfl⟩
 | x::a=>by
  obtain ⟨t,h1,h2,h3⟩:=ex_ins a;exact ⟨(none,some x)::t,by simp [lft] at *;exact h1,by simp [rgt] at *;exact h2,by simp [cost,one] at *;omega⟩
theorem lft_cons (p:Option Int×Option Int)(t:Al):lft (p::t)=match p.1 with | some x=>x::lft t | none=>lft t:=by
 obtain ⟨p1,p2⟩:=p;cases p1 <;> simp [lft]
theorem rgt_cons (p:Option Int×Option Int)(t:Al):rgt (p::t)=match p.2 with | some x=>x::rgt t | none=>rgt t:=by
 obtain ⟨p1,p2⟩:=p;cases p2 <;> simp [rgt]
theorem cost_cons (p:Option Int×Option Int)(t:Al):cost (p::t)=one p + cost t:=by simp [cost]
theorem ex:∀ (a b:List Int),∃ t:Al,lft t=a∧rgt t=b∧cost t=lev a b
 | [],b=>by obtain ⟨t,h1,h2,h3⟩:=ex_ins b;exact ⟨t,h1,h2,h3⟩
 | x::a,[]=>by obtain ⟨t,h1,h2,h3⟩:=ex_del (x::a);exact ⟨t,h1,h2,by rw [h3,lev_nil']⟩
 | x::a,y::b=>by
  obtain ⟨t1,l1,r1,c1⟩:=ex a b;obtain ⟨t2,l2,r2,c2⟩:=ex a (y::b);obtain ⟨t3,l3,r3,c3⟩:=ex (x::a) b;rw [lev_cons];by_cases h:x=y
  ·exact ⟨(some x,some y)::t1,by rw [lft_cons,l1],by rw [rgt_cons,r1],by rw [cost_cons,c1,if_pos h];simp [one,h]⟩
  ·rw [if_neg h];rcases Nat.le_total (lev a b) (lev a (y::b)) with h1 | h1
   ·rcases Nat.le_total (lev a b) (lev (x::a) b) with h2 | h2
    ·exact ⟨(some x,some y)::t1,by rw [lft_cons,l1],by rw [rgt_cons,r1],by rw [cost_cons,c1];simp only [one,if_neg h];omega⟩
    ·exact ⟨(none,some y)::t3,by rw [lft_cons,l3],by rw [rgt_cons,r3],by rw [cost_cons,c3];simp only [one];omega⟩
   ·rcases Nat.le_total (lev a (y::b)) (lev (x::a) b) with h2 | h2
    ·exact ⟨(some x,none)::t2,by rw [lft_cons,l2],by rw [rgt_cons,r2],by rw [cost_cons,c2];simp only [one];omega⟩
    ·exact ⟨(none,some y)::t3,by rw [lft_cons,l3],by rw [rgt_cons,r3],by rw [cost_cons,c3];simp only [one];omega⟩
theorem one_le (p:Option Int×Option Int):one p≤1:=by
 obtain ⟨p1,p2⟩:=p;cases p1 <;> cases p2 <;> simp [one]
 split <;> omega
end Go.Proofs.YtmkkppknaikjjaaGreatDoor.D
namespace Go.Proofs.YtmkkppknaikjjaaGreatDoor
section
open Go.RowKit
def GivesI64 (l:List Int)(w:World)(e:Ending)(w':World):Prop:=∃ v,e=.returned v∧w'.ownsRow w.heap.size 3 1 v l.length (l.map (Value.int .i64))∧Below w.heap.size w w'
set_option maxHeartbeats 1000000 in
set_option maxRecDepth 100000 in
theorem refpoints_any (s:ByteArray)(w:World)(hs:s.size≤1000000)(hT:Tabs w) :
  Calls Tryz.prog 213 #[.string s] w (GivesI64 (pts s.size s) w):=by
 have HT:=Lib.hid hT;clear hT;go_enter Tryz.func213,Tryz.ntmps213
 go_wp2_with fail
 go_loopw [0,3] (fun r v wr=>∃ (acc:List Int) (f:Nat) (rest:ByteArray),r=.string rest∧rest.size≤f∧acc.length + rest.size≤s.size∧acc++pts f rest=pts s.size s∧wr.ownsRow w.heap.size 3 1 v acc.length (acc.map (Value.int .i64))∧Below w.heap.size w wr) (fun r _ _=>match r with | .string t=>t.size | _=>0)
 case atStart=>exact ⟨[],s.size,s,rfl,Nat.le_refl _,by simp,rfl,World.ownsRow_nil _ _ _ _,Below.refl _ _⟩
 case round =>
  obtain ⟨acc,f,rest,rfl,hf,hlen,hacc,hown,hbl⟩:=hrel;have Hacc:=Lib.hid hacc;have Hown:=Lib.hid hown;clear hacc hown;have hsz:=hbl.size;rcases Nat.eq_zero_or_pos rest.size with h0 | h0
  ·have n1:=(str_nil h0).1;have n2:=(str_nil h0).2;have Hv:Hid (acc=pts s.size s):=by show _=_;rw [← Hacc.out,pts_nil _ _ h0,List.append_nil]
   clear h0;go_wp2_with fail
   go_ret;exact ⟨u3,rfl,by rw [← Hv.out];exact Hown.out,hbl⟩
  ·have n1:=(str_ne h0).1;have n2:=(str_ne h0).2;have hd:=dec_rng rest h0;obtain ⟨g,rfl⟩:∃ g,f=g + 1:=⟨f - 1,by omega⟩;have Hp:=Lib.hid (pts_cons g rest h0);have Hdec:Hid (∀ w',Tabs w'→Calls Tryz.prog 207 #[.string rest] w' fun e w''=>e=.returned (.tuple #[.int .i32 (Lib.decodeGo rest).1,.int .i64 (Lib.decodeGo rest).2])∧Below w'.heap.size w' w''):=fun w' h=>Tryz.utf8_DecodeRuneInString rest w' h;obtain ⟨d,Hd⟩:∃ d,Hid (Lib.decodeGo rest=d):=⟨_,Lib.hid rfl⟩;rw [Hd.out] at hd Hp Hdec;obtain ⟨r,n⟩:=d;obtain ⟨hn1,hn2,hr⟩:1≤n∧n≤rest.size∧r≤1114111:=hd;clear Hd;have Hz:Hid ((rest.extract n rest.size).size=rest.size - n):=by show _=_;rw [ByteArray.size_extract];omega
   go_wp2_with fail
   refine (Hdec.out _ (Utf8Tabs_below HT.out (hbl.mono (Nat.le_refl _)))).mono ?_;rintro e w1 ⟨rfl,hl1⟩;have hz1:=hl1.size;clear Hdec;by_cases hbad:r=65533∧n=1
   ·have Hx:Hid (pts (g + 1) rest=(-1 - (rest[0].toNat:Int))::pts g (rest.extract n rest.size)):=by show _=_;rw [Hp.out,if_pos hbad]
    have e1:((r:Int)==65533)=true:=by simp [hbad.1]
    have e2:((n:Int)==1)=true:=by simp [hbad.2]
    have hc:=rest[0].toNat_lt;clear hbad Hp;go_wp2_with (at_builtin;refine app_lit (w0:=w1) tyInts rfl _ _ rfl w.heap.size _ _ _ _ _ rfl (own_keep Hown.out hl1) rfl rfl (by simp [Value.oneCell']) (by omega) (by omega) (by decide) ?_;intro v' w2 hb2 hg2 hl2 hn2';clear hg2 hn2')
    go_roundw
    case rel=>exact ⟨acc++[-1 - (rest[0].toNat:Int)],g,rest.extract n rest.size,rfl,by rw [Hz.out];omega,by rw [Hz.out,List.length_append];simp;omega,by rw [← Hacc.out,Hx.out];simp,by simpa using hb2,(hbl.trans (hl1.mono (by omega))).trans hl2⟩
    case measure=>simp [Hz.out];omega
   ·have Hx:Hid (pts (g + 1) rest=(r:Int)::pts g (rest.extract n rest.size)):=by show _=_;rw [Hp.out,if_neg hbad]
    clear Hp;by_cases h1:r=65533
    ·have e1:((r:Int)==65533)=true:=by simp [h1]
     have e2:((n:Int)==1)=false:=by simp;omega
     clear hbad h1;go_wp2_with (at_builtin;refine app_lit (w0:=w1) tyInts rfl _ _ rfl w.heap.size _ _ _ _ _ rfl (own_keep Hown.out hl1) rfl rfl (by simp [Value.oneCell']) (by omega) (by omega) (by decide) ?_;intro v' w2 hb2 hg2 hl2 hn2';clear hg2 hn2')
     go_roundw
     case rel=>exact ⟨acc++[(r:Int)],g,rest.extract n rest.size,rfl,by rw [Hz.out];omega,by rw [Hz.out,List.length_append];simp;omega,by rw [← Hacc.out,Hx.out];simp,by simpa using hb2,(hbl.trans (hl1.mono (by omega))).trans hl2⟩
     case measure=>simp [Hz.out];omega
    ·have e1:((r:Int)==65533)=false:=by simp;omega
     clear hbad h1;go_wp2_with (at_builtin;refine app_lit (w0:=w1) tyInts rfl _ _ rfl w.heap.size _ _ _ _ _ rfl (own_keep Hown.out hl1) rfl rfl (by simp [Value.oneCell']) (by omega) (by omega) (by decide) ?_;intro v' w2 hb2 hg2 hl2 hn2';clear hg2 hn2')
     go_roundw
     case rel=>exact ⟨acc++[(r:Int)],g,rest.extract n rest.size,rfl,by rw [Hz.out];omega,by rw [Hz.out,List.length_append];simp;omega,by rw [← Hacc.out,Hx.out];simp,by simpa using hb2,(hbl.trans (hl1.mono (by omega))).trans hl2⟩
     case measure=>simp [Hz.out];omega
end
section
open Go.RowKit
def ptOk (p:Int):Bool:= !(decide (p < 32) || p==127)
theorem all_take {α:Type}(p:α→Bool)(l:List α)(k:Nat):l.all p=((l.take k).all p && (l.drop k).all p):=by
 rw [← List.all_append,List.take_append_drop]
theorem take_byte (s:ByteArray)(k:Nat)(hk:k≤s.size)(p:UInt8→Bool)(h:∀ i,i < k→p (s.get! i)=true):(s.data.toList.take k).all p=true:=by
 rw [List.all_eq_true];intro x hx;obtain ⟨i,hi,e⟩:=List.getElem_of_mem hx;rw [List.length_take] at hi;rw [List.getElem_take] at e;have h1:=h i (by omega);have:s.get! i=x:=by
  rw [← e];have hs:i < s.size:=by omega
  simp [ByteArray.get!,getElem!_pos s.data i (show i < s.data.size from hs)]
 rwa [this] at h1
theorem text_law:∀ (f:Nat) (s:ByteArray),s.size≤f→(pts f s).all ptOk=textOk s
 | 0,s,h=>by
  have h0:s.size=0:=by omega
  have:s=⟨#[]⟩:=ByteArray.size_eq_zero_iff.1 h0
  subst this;rfl
 | f + 1,s,h=>by
  by_cases h0:s.size=0
  ·have:s=⟨#[]⟩:=ByteArray.size_eq_zero_iff.1 h0
   subst this;rfl
  ·have hpos:0 < s.size:=by omega
   have hne:s.data.toList≠[]:=by
    intro e;have:s.data.toList.length=0:=by rw [e];rfl
    exact h0 this
   have hdl:Lib.decodeL s.data.toList=Lib.decodeGo s:=by unfold Lib.decodeL Lib.decodeGo;rw [if_neg h0]
   have hdn:Lib.decodeGo s=Lib.decodeN s.size (s.get! 0).toNat (s.get! 1).toNat (s.get! 2).toNat (s.get! 3).toNat:=by
    unfold Lib.decodeGo;rw [if_neg h0,Lib.decode_at];rfl
   have hr:=dec_rng s hpos;have ih:=text_law f (s.extract (Lib.decodeGo s).2 s.size) (by rw [Lib.ext_size];omega);have hg0:s.get! 0=s[0]:=by
    simp [ByteArray.get!,getElem!_pos s.data 0 (show 0 < s.data.size from hpos)];rfl
   rw [pts_cons f s hpos,List.all_cons,ih];unfold textOk;rw [Lib.validD_step _ hne,hdl,Lib.ext_list,all_take L.textByte s.data.toList (Lib.decodeGo s).2];rcases L.decodeN_parts s.size (s.get! 0).toNat (s.get! 1).toNat (s.get! 2).toNat (s.get! 3).toNat (by omega) with ⟨e,hb⟩ | ⟨e,hb⟩ | ⟨h1,h2,h3,h4,h5,h6,h7,h8⟩
   ·rw [← hdn] at e;have hx:(s.data.toList.take 1).all L.textByte=L.textByte (s.get! 0):=by
     obtain ⟨⟨l⟩⟩:=s;cases l with
     | nil=>exact absurd rfl h0
     | cons a t=>simp [ByteArray.get!]
    rw [e];dsimp only
    rw [if_neg (by omega),if_neg (by omega),hx];have:ptOk ((s.get! 0).toNat:Int)=L.textByte (s.get! 0):=by
     unfold ptOk L.textByte;rw [Bool.eq_iff_iff];simp;omega
    rw [this];cases L.textByte (s.get! 0) <;> simp
   ·rw [← hdn] at e;rw [e];dsimp only
    rw [if_pos ⟨rfl,rfl⟩,if_pos ⟨rfl,rfl⟩];have:ptOk (-1 - (s[0].toNat:Int))=false:=by unfold ptOk;simp;omega
    rw [this];simp
   ·rw [← hdn] at h1 h2 h3 h4 h7 h8;rw [if_neg (by omega),if_neg (by omega)];have h9:ptOk ((Lib.decodeGo s).1:Int)=true:=by unfold ptOk;simp;omega
    have h10:(s.data.toList.take (Lib.decodeGo s).2).all L.textByte=true:=by
     refine take_byte s _ h4 _ (fun i hi=>?_);have:i=0∨i=1∨i=2∨i=3:=by omega
     have hb:128≤(s.get! i).toNat:=by
      rcases this with rfl | rfl | rfl | rfl
      ·exact h5
      ·exact h6
      ·exact h7 (by omega)
      ·exact h8 (by omega)
     unfold L.textByte;simp;omega
    rw [h9,h10];simp
theorem textFault_pts (s:ByteArray)(h:s.size≤200):textFault s=if (pts s.size s).all ptOk then 0 else 3:=by
 rw [text_law s.size s (Nat.le_refl _),textFault,if_neg (by omega)]
theorem ixa2 (w:World):(Instr.index 338 (.agg #[.int .i64 0,.int .i64 0,.int .i64 (-1000000000000),.int .i64 0,.int .i64 0]) (.int .i64 2)).run Tryz.prog w=.ok (.int .i64 (-1000000000000)) w:=by kernel_rfl
theorem ixa3 (w:World):(Instr.index 338 (.agg #[.int .i64 0,.int .i64 0,.int .i64 (-1000000000000),.int .i64 0,.int .i64 0]) (.int .i64 3)).run Tryz.prog w=.ok (.int .i64 0) w:=by kernel_rfl
theorem ixa4 (w:World):(Instr.index 338 (.agg #[.int .i64 0,.int .i64 0,.int .i64 (-1000000000000),.int .i64 0,.int .i64 0]) (.int .i64 4)).run Tryz.prog w=.ok (.int .i64 0) w:=by kernel_rfl
theorem ixb2 (w:World):(Instr.index 338 (.agg #[.int .i64 0,.int .i64 0,.int .i64 1000000000000,.int .i64 1,.int .i64 4321439]) (.int .i64 2)).run Tryz.prog w=.ok (.int .i64 1000000000000) w:=by kernel_rfl
theorem ixb3 (w:World):(Instr.index 338 (.agg #[.int .i64 0,.int .i64 0,.int .i64 1000000000000,.int .i64 1,.int .i64 4321439]) (.int .i64 3)).run Tryz.prog w=.ok (.int .i64 1) w:=by kernel_rfl
theorem ixb4 (w:World):(Instr.index 338 (.agg #[.int .i64 0,.int .i64 0,.int .i64 1000000000000,.int .i64 1,.int .i64 4321439]) (.int .i64 4)).run Tryz.prog w=.ok (.int .i64 4321439) w:=by kernel_rfl
set_option maxHeartbeats 1000000 in
set_option maxRecDepth 100000 in
theorem valueFault_num (k n:Int)(t:ByteArray)(w:World)(hk:k≠1) :
  Calls Tryz.prog 234 #[.agg #[.int .i64 k,.string t,.int .i64 n]] w fun e w'=>e=.returned (.int .i64 (valueFault k t n))∧Below w.heap.size w w':=by
 obtain ⟨R,HR⟩:∃ R,Hid (valueFault k t n=R):=⟨_,Lib.hid rfl⟩;rw [HR.out];have Hb:Hid (Below w.heap.size w (w.alloc (.cells #[.int .i64 k,.string t,.int .i64 n] 174))):=(Below.refl _ _).alloc (Nat.le_refl _) _;have hk':(k==1)=false:=by simpa using hk
 by_cases h4:1≤k∧k≤4
 ·have e4:decide ((1:Int)≤k∧k≤4)=true:=by simp;omega
  by_cases ht:t.toList=[]
  ·have ht':t.toList.isEmpty=true:=by simpa using ht
   obtain rfl | rfl | rfl:k=2∨k=3∨k=4:=by omega
   all_goals
    clear h4 e4 hk;have i1:=@ixa2;have i2:=@ixa3;have i3:=@ixa4;have i4:=@ixb2;have i5:=@ixb3;have i6:=@ixb4;go_enter Tryz.func234,Tryz.ntmps234
    go_wp2_with (first | (go_at_call 62;refine (in_any _ _ _ _).mono ?_;rintro e _ ⟨rfl,rfl⟩))
    go_quiet (fail)
    go_wp2_with (first | (go_at_call 62;refine (in_any _ _ _ _).mono ?_;rintro e _ ⟨rfl,rfl⟩))
    all_goals
     go_ret;refine ⟨ret_i ?_,Hb.out.trans (below_drewN _ _ _)⟩;rw [← HR.out];unfold valueFault;clear HR Hb i1 i2 i3 i4 i5 i6;simp_all;try omega
  ·have ht':t.toList.isEmpty=false:=by simpa using ht
   go_enter Tryz.func234,Tryz.ntmps234
   go_wp2_with (first | (go_at_call 62;refine (in_any _ _ _ _).mono ?_;rintro e _ ⟨rfl,rfl⟩;rw [e4]))
   go_ret;refine ⟨ret_i ?_,Hb.out⟩;rw [← HR.out];unfold valueFault;obtain h | h | h:k=2∨k=3∨k=4:=by omega
   all_goals simp [h,ht]
 ·have e4:decide ((1:Int)≤k∧k≤4)=false:=by simp;omega
  go_enter Tryz.func234,Tryz.ntmps234
  go_wp2_with (first | (go_at_call 62;refine (in_any _ _ _ _).mono ?_;rintro e _ ⟨rfl,rfl⟩;rw [e4]))
  go_ret;refine ⟨ret_i ?_,Hb.out⟩;rw [← HR.out];unfold valueFault;rw [if_neg (by omega),if_neg (by omega),if_neg (by omega),if_neg (by omega)]
set_option maxHeartbeats 1000000 in
set_option maxRecDepth 100000 in
theorem valueFault_text (n:Int)(t:ByteArray)(w:World)(hT:Tabs w) :
  Calls Tryz.prog 234 #[.agg #[.int .i64 1,.string t,.int .i64 n]] w fun e w'=>e=.returned (.int .i64 (valueFault 1 t n))∧Below w.heap.size w w':=by
 have HT:=Lib.hid hT;clear hT;obtain ⟨R,HR⟩:∃ R,Hid (valueFault 1 t n=R):=⟨_,Lib.hid rfl⟩;rw [HR.out];have Hb:Hid (Below w.heap.size w (w.alloc (.cells #[.int .i64 1,.string t,.int .i64 n] 174))):=(Below.refl _ _).alloc (Nat.le_refl _) _;by_cases hn:n=0
 ·subst hn;by_cases h200:200 < t.size
  ·go_enter Tryz.func234,Tryz.ntmps234
   go_wp2_with (first | (go_at_call 62;refine (in_any _ _ _ _).mono ?_;rintro e _ ⟨rfl,rfl⟩))
   go_ret;refine ⟨ret_i ?_,Hb.out⟩;rw [← HR.out,valueFault,if_pos rfl,if_neg (show ¬ (0:Int)≠0 by simp),textFault,if_pos h200]
  ·have HR2:Hid ((if (pts t.size t).all ptOk then (0:Int) else 3)=R):=by
    show _=_;rw [← HR.out,valueFault,if_pos rfl,if_neg (show ¬ (0:Int)≠0 by simp),textFault_pts t (by omega)]
   clear HR;have Hp:Hid (∀ w',Tabs w'→Calls Tryz.prog 213 #[.string t] w' (GivesI64 (pts t.size t) w')):=fun w' h=>refpoints_any t w' (by omega) h;have hpl:=pts_len t.size t (Nat.le_refl _);generalize pts t.size t=ps at *;go_enter Tryz.func234,Tryz.ntmps234
   go_wp2_with (first | (go_at_call 62;refine (in_any _ _ _ _).mono ?_;rintro e _ ⟨rfl,rfl⟩))
   refine (Hp.out _ (Utf8Tabs_below HT.out Hb.out)).mono ?_;rintro e w1 ⟨v,rfl,hov,hl1⟩;have Hb1:Hid (Below w.heap.size w w1):=Hb.out.trans (hl1.mono (by simp));have Hrd:=Lib.hid (Rd.ofOwn hov);clear hov hl1 Hb Hp HT;obtain ⟨A,c,rfl⟩:∃ A c,v=.slice A ps.length c:=by
    rcases Hrd.out.2 with ⟨x,c,rfl,h0⟩ | ⟨blk,off,cap,rfl,_⟩
    ·exact ⟨x,c,by rw [h0]⟩
    ·exact ⟨_,cap,rfl⟩
   have Ha:Hid (∀ i,i < ps.length→∃ blk off x,A=some ⟨blk,off,none⟩∧ps[i]? =some x∧w1.cell? ⟨blk,off + i,none⟩=some (.int .i64 x)):=by
    intro i hi;rcases Hrd.out.2 with ⟨x,c,he,h0⟩ | ⟨blk,off,cap,he,hk,hc⟩
    ·omega
    ·cases he;exact ⟨blk,off,_,rfl,List.getElem?_eq_getElem hi,hc i _ (by simp [hi])⟩
   clear Hrd;go_wp2_with fail
   go_loopw [27] (fun i wr=>∃ k:Nat,k≤ps.length∧i=.int .i64 k∧wr=w1∧(if (ps.drop k).all ptOk then (0:Int) else 3)=R) (fun i _=>ps.length - (intOf i).toNat)
   case atStart=>exact ⟨0,Nat.zero_le _,rfl,rfl,HR2.out⟩
   case round =>
    obtain ⟨k,hk,rfl,rfl,hr⟩:=hrel;have Hr:=Lib.hid hr;clear hr HR2;by_cases hlt:k < ps.length
    ·obtain ⟨blk,off,x,rfl,hx,hc⟩:=Ha.out k hlt;have Hs:Hid ((if (ptOk x && (ps.drop (k + 1)).all ptOk) then (0:Int) else 3)=R):=by
      show _=_;rw [← Hr.out,List.drop_eq_getElem_cons hlt,List.all_cons];have:ps[k]=x:=by simpa [List.getElem?_eq_getElem hlt] using hx
      rw [this]
     clear hx Hr;by_cases hp:ptOk x=true
     ·have h1:decide (x < 32)=false∧(x==127)=false:=by simpa [ptOk] using hp
      have h2:=h1.1;have h3:=h1.2;rw [hp] at Hs;clear h1 hp;go_wp2_with fail
      go_roundw
      case rel=>exact ⟨k + 1,by omega,by go_num,trivial,by rw [← Hs.out];simp⟩
      case measure=>simp [intOf];omega
     ·have hp':ptOk x=false:=by simpa using hp
      rw [hp'] at Hs;have h1:x < 32∨x=127:=by
       have:32≤x→x=127:=by simpa [ptOk] using hp'
       omega
      clear hp hp';by_cases h2:x < 32
      ·clear h1;go_wp2_with fail
       go_ret;exact ⟨ret_i (by rw [← Hs.out];simp),Hb1.out⟩
      ·have h3:(x==127)=true:=by simp;omega
       clear h1;go_wp2_with fail
       go_ret;exact ⟨ret_i (by rw [← Hs.out];simp),Hb1.out⟩
    ·go_wp2_with fail
     go_ret;exact ⟨ret_i (by rw [← Hr.out,List.drop_eq_nil_of_le (by omega)];simp),Hb1.out⟩
 ·have hn':(n != 0)=true:=by simpa using hn
  go_enter Tryz.func234,Tryz.ntmps234
  go_wp2_with (first | (go_at_call 62;refine (in_any _ _ _ _).mono ?_;rintro e _ ⟨rfl,rfl⟩))
  go_ret;refine ⟨ret_i ?_,Hb.out⟩;rw [← HR.out,valueFault,if_pos rfl,if_pos hn]
theorem refValue_any (k n:Int)(t:ByteArray)(w:World)(hT:Tabs w) :
  Calls Tryz.prog 234 #[.agg #[.int .i64 k,.string t,.int .i64 n]] w fun e w'=>e=.returned (.int .i64 (valueFault k t n))∧Below w.heap.size w w':=by
 by_cases hk:k=1
 ·subst hk;exact valueFault_text n t w hT
 ·exact valueFault_num k n t w hk
theorem leS_nil (a:ByteArray)(h:L.isKey a=true):leS a ⟨#[]⟩=false:=by
 have hz:1≤a.size:=by
  unfold L.isKey at h;simp only [Bool.and_eq_true,decide_eq_true_eq] at h;exact h.1.1.1
 have h1:=(str_ne hz).1;have h2:=(str_nil (t:=⟨#[]⟩) rfl).1;unfold leS;rw [h2];generalize a.toList=l at h1;cases l with
 | nil=>exact absurd rfl h1
 | cons x t=>rfl
def lastNm (xs:List Fld)(k:Nat):ByteArray:=if k=0 then ⟨#[]⟩ else ((xs[k - 1]?).map Fld.name).getD ⟨#[]⟩
theorem last_le (xs:List Fld)(k:Nat)(f:Fld)(hk:k < xs.length)(h:L.isKey f.name=true):(prevAt xs k).any (fun p=>leS f.name p)=leS f.name (lastNm xs k):=by
 unfold prevAt lastNm;by_cases h0:k=0
 ·rw [if_pos h0,if_pos h0,leS_nil _ h];rfl
 ·rw [if_neg h0,if_neg h0,List.getElem?_eq_getElem (by omega)];rfl
theorem lastNm_succ (xs:List Fld)(k:Nat)(f:Fld)(h:xs[k]? =some f):lastNm xs (k + 1)=f.name:=by
 unfold lastNm;rw [if_neg (by omega),Nat.add_sub_cancel,h];rfl
theorem prevAt_succ (xs:List Fld)(k:Nat)(f:Fld)(h:xs[k]? =some f):prevAt xs (k + 1)=some f.name:=by
 unfold prevAt;rw [if_neg (by omega),Nat.add_sub_cancel,h];rfl
set_option maxHeartbeats 4000000 in
set_option maxRecDepth 100000 in
theorem refFields_any (N:Nat→Prop)(A:Option Addr)(xs:List Fld)(c:Nat)(w:World)(hS:Sl rFld N w A xs)(hsm:∀ f∈xs,f.small)(hn:xs.length≤1000000000)(hT:Tabs w) :
  Calls Tryz.prog 163 #[.slice A xs.length c] w fun e w'=>e=.returned (.int .i64 (fldsFault xs))∧Below w.heap.size w w':=by
 have HT:=Lib.hid hT;have HS:=Lib.hid hS;have Hsm:=Lib.hid hsm;clear hT hS hsm;obtain ⟨R,HR⟩:∃ R,Hid (fldsFault xs=R):=⟨_,Lib.hid rfl⟩;rw [HR.out];by_cases h30:30 < xs.length
 ·go_enter Tryz.func163,Tryz.ntmps163
  go_wp2_with fail
  go_ret;exact ⟨ret_i (by rw [← HR.out];simp [fldsFault,h30]),Below.refl _ _⟩
 ·have HR2:Hid (fldsGo none xs=R):=by show _=_;rw [← HR.out,fldsFault,if_neg h30]
  clear HR;go_enter Tryz.func163,Tryz.ntmps163
  go_wp2_with fail
  go_loopw [3,12] (fun v i wr=>∃ k:Nat,k≤xs.length∧i=.int .i64 k∧v=.string (lastNm xs k)∧fldsGo (prevAt xs k) (xs.drop k)=R∧Below w.heap.size w wr) (fun _ i _=>xs.length - (intOf i).toNat)
  case atStart=>exact ⟨0,Nat.zero_le _,rfl,rfl,HR2.out,Below.refl _ _⟩
  case round =>
   clear HR2;obtain ⟨k,hk,rfl,rfl,hr,hbl⟩:=hrel;have Hr:=Lib.hid hr;clear hr;by_cases hlt:k < xs.length
   ·obtain ⟨f,hf⟩:∃ f,xs[k]? =some f:=⟨_,List.getElem?_eq_getElem hlt⟩;obtain ⟨blk,off,rfl,hblk,c0,c1,c2,c3⟩:=HS.out.fld k f hf;have d0:=(hbl.cell (p:=⟨blk,off + k * 4,none⟩) hblk).trans c0;have d1:=(hbl.cell (p:=⟨blk,off + k * 4 + 1,none⟩) hblk).trans c1;have d2:=(hbl.cell (p:=⟨blk,off + k * 4 + 2,none⟩) hblk).trans c2;have d3:=(hbl.cell (p:=⟨blk,off + k * 4 + 3,none⟩) hblk).trans c3;have hfs1:f.name.size≤1000000000:=And.left (Hsm.out f (List.mem_of_getElem? hf));have Hf:=Lib.hid hf;clear c0 c1 c2 c3 hf;have Hstep:Hid (fldsGo (prevAt xs k) (f::xs.drop (k + 1))=R):=by
     show _=_;rw [← Hr.out,List.drop_eq_getElem_cons hlt];have:xs[k]=f:=by simpa [List.getElem?_eq_getElem hlt] using Hf.out
     rw [this]
    clear Hr;have Hcv:Hid (∀ w',Below w.heap.size w w'→Calls Tryz.prog 234 #[.agg #[.int .i64 f.kind,.string f.text,.int .i64 f.num]] w' fun e w''=>e=.returned (.int .i64 (valueFault f.kind f.text f.num))∧Below w'.heap.size w' w''):=fun w' h=>refValue_any _ _ _ w' (Utf8Tabs_below HT.out h);have Hb1:Hid (Below w.heap.size w (wr.alloc (.cells #[.string f.name,.int .i64 f.kind,.string f.text,.int .i64 f.num] 176))):=hbl.alloc hbl.size _;have hsz:=hbl.size;by_cases h1:L.isKey f.name=true
    ·have HL:=Lib.hid (last_le xs k f hlt h1);generalize lastNm xs k=last at *;go_wp2_with fail
     refine (Key_any f.name _ hfs1).mono ?_;rintro e w0 ⟨rfl,hl_w0⟩;have hz_w0:=hl_w0.size;rw [h1];have Hb2:Hid (Below w.heap.size w w0):=Hb1.out.trans (hl_w0.mono (by simp;omega));have q1:∀ j:Nat,w0.cell? ⟨wr.heap.size,j,none⟩=(wr.alloc (.cells #[.string f.name,.int .i64 f.kind,.string f.text,.int .i64 f.num] 176)).cell? ⟨wr.heap.size,j,none⟩:=fun j=>hl_w0.cell (p:=⟨wr.heap.size,j,none⟩) (by simp);have q2:w0.cell? ⟨wr.heap.size,0,none⟩=some (.string f.name):=by rw [q1,World.cell?_alloc_at _ _ _ _ rfl];rfl
     have q3:w0.cell? ⟨wr.heap.size,1,none⟩=some (.int .i64 f.kind):=by rw [q1,World.cell?_alloc_at _ _ _ _ rfl];rfl
     have q4:w0.cell? ⟨wr.heap.size,2,none⟩=some (.string f.text):=by rw [q1,World.cell?_alloc_at _ _ _ _ rfl];rfl
     have q5:w0.cell? ⟨wr.heap.size,3,none⟩=some (.int .i64 f.num):=by rw [q1,World.cell?_alloc_at _ _ _ _ rfl];rfl
     have hz0:wr.heap.size < w0.heap.size:=by simp at hz_w0;omega
     clear q1 d0 d1 d2 d3 hl_w0 hz_w0;by_cases h2:valueFault f.kind f.text f.num=0
     ·rw [h2] at Hcv;go_wp2_with fail
      refine (Hcv.out _ Hb2.out).mono ?_;rintro e w1 ⟨rfl,hl_w1⟩;have hz_w1:=hl_w1.size;have r2:w1.cell? ⟨wr.heap.size,0,none⟩=some (.string f.name):=(hl_w1.cell (p:=⟨wr.heap.size,0,none⟩) hz0).trans q2;clear q2 q3 q4 q5 Hcv;have Hb3:Hid (Below w.heap.size w w1):=Hb2.out.trans (hl_w1.mono (by omega));go_wp2_with fail
      ·have hle:leS f.name last=true:=by
        have h:Op.bytesLess f.name.toList last.toList=true∨(f.name.toList==last.toList)=true:=by assumption
        unfold leS;rw [Bool.or_eq_true];exact h
       go_ret;exact ⟨ret_i (by rw [← Hstep.out,fldsGo,h1,h2,HL.out,hle];simp),Hb3.out⟩
      ·have hle:Hid (leS f.name last=false):=by
        have h:Op.bytesLess f.name.toList last.toList=false∧(f.name.toList==last.toList)=false:=by assumption
        show leS _ _=_;unfold leS;rw [h.1,h.2];rfl
       go_roundw
       case rel=>exact ⟨k + 1,by omega,by go_num,by rw [lastNm_succ xs k f Hf.out],by rw [← Hstep.out,fldsGo,h1,h2,HL.out,hle.out,prevAt_succ xs k f Hf.out];simp,Hb3.out⟩
       case measure=>simp [intOf];omega
     ·go_wp2_with fail
      refine (Hcv.out _ Hb2.out).mono ?_;rintro e w1 ⟨rfl,hl_w1⟩;have hz_w1:=hl_w1.size;go_wp2_with fail
      go_ret;exact ⟨ret_i (by rw [← Hstep.out,fldsGo,h1];simp [h2]),Hb2.out.trans (hl_w1.mono (by omega))⟩
    ·have h1:L.isKey f.name=false:=by simpa using h1
     go_wp2_with fail
     refine (Key_any f.name _ hfs1).mono ?_;rintro e w0 ⟨rfl,hl_w0⟩;have hz_w0:=hl_w0.size;rw [h1];go_wp2_with fail
     go_ret;exact ⟨ret_i (by rw [← Hstep.out,fldsGo,h1];simp),Hb1.out.trans (hl_w0.mono (by simp;omega))⟩
   ·go_wp2_with fail
    go_ret;exact ⟨ret_i (by rw [← Hr.out,List.drop_eq_nil_of_le (by omega)];rfl),hbl⟩
end
end Go.Proofs.YtmkkppknaikjjaaGreatDoor
