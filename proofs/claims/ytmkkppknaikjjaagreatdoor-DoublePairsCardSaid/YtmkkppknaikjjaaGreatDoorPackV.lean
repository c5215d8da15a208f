/- Several texts in one: DistLaw, Dist, Builder, QuoteLaw, Quote, Points, Value, Cmp, Fields, IdOrder, Find, FldLaw, LevLaw, Far, Text. -/
import Derived.Lib.ConvBytes
import Derived.Test.YtmkkppknaikjjaaGreatDoorPackW
import Derived.WalkLawsBesides
import Derived.Test.YtmkkppknaikjjaaGreatDoorPackM
/- Edit distances, plainly: by rows from the front, by columns from the end, and that both are one number. No program is in sight. -/
set_option maxHeartbeats 4000000
set_option maxRecDepth 100000
open Go.Lib renaming hid→Z9, compareInt→ZL, decodeGo→ZI, strCells_length→Zm, byteCells→Zj, cell_of_heap→Y0, indexByte→YF, decodeN→YD
open List renaming getElem?_eq_getElem→Z8, mem_of_getElem?→Z7, length_append→Z4, length_cons→ZV, length_take→ZR, length_nil→ZO, length_drop→ZK, drop_eq_nil_of_le→ZJ, append_nil→ZH, getElem?_eq_none→ZG, size_toArray→ZC, drop_eq_getElem_cons→Zz, getElem?_set→Zv, ext_getElem?→Zu, take_length→Zp, getElem_of_mem→Zn, flatMap_cons→Y5, range→YW, take_append_drop→YK
open Nat renaming le_refl→Z5, zero_le→ZN, lt_or_ge→YL
open Go.RowKit.Below renaming refl→ZX, heap_setCell→Zo
open Bool renaming and_eq_true→ZQ, or_eq_true→Ze, eq_iff_iff→Y7
namespace Go.Proofs.YtmkkppknaikjjaaGreatDoor.D
def nextRow (f:Nat→Nat)(c:Nat→Nat)(z:Nat):Nat→Nat
 | 0=>z
 | j + 1=>min (min (f j + c j) (nextRow f c z j + 1)) (f (j + 1) + 1)
def pre (a b:List Int):Nat→Nat→Nat
 | 0=>fun j=>j
 | i + 1=>nextRow (pre a b i) (fun j=>if a[i]? =b[j]? then 0 else 1) (i + 1)
theorem aj1 (a b:List Int)(j:Nat):pre a b 0 j=j:=rfl
theorem OV (a b:List Int)(i:Nat):pre a b i 0=i:=by cases i <;> rfl
theorem acn (a b:List Int)(i j:Nat):pre a b (i + 1) (j + 1)=min (min (pre a b i j + (if a[i]? =b[j]? then 0 else 1)) (pre a b (i + 1) j + 1)) (pre a b i (j + 1) + 1):=rfl
theorem aco (f c:Nat→Nat)(z:Nat)(hf:∀ j,f j≤z + j):∀ j,nextRow f c z j≤z + j
 | 0=>Z5 _
 | j + 1=>by have:=aco f c z hf j;simp only [nextRow];omega
theorem KO (a b:List Int):∀ i j,pre a b i j≤i + j
 | 0,j=>by simp [pre]
 | i + 1,j=>aco _ _ _ (fun j=>by have:=KO a b i j;omega) j
end Go.Proofs.YtmkkppknaikjjaaGreatDoor.D
namespace Go.Proofs.YtmkkppknaikjjaaGreatDoor
section
open Go.RowKit
theorem Gz:kF 22 3 1 8 (.int .i64 0):=⟨Tryz.underlying22,by kernel_rfl,rfl,by decide⟩
def rowOf (n:Nat)(g:Nat→Nat):List Value:=(YW n).map fun t=>Value.int .i64 (g t)
theorem aj2 (n:Nat)(g:Nat→Nat):(rowOf n g).length=n:=by simp [rowOf]
theorem KP (n:Nat)(g:Nat→Nat)(j:Nat)(h:j < n):(rowOf n g)[j]? =some (.int .i64 (g j)):=by simp [rowOf,h]
theorem acp (n:Nat)(g:Nat→Nat)(j u:Nat):(rowOf n g).set j (.int .i64 u)=rowOf n (fun t=>if t=j then u else g t):=by
 apply Zu;intro i;rw [Zv];by_cases hi:i < n
 ·rw [KP n (fun t=>if t=j then u else g t) i hi,KP n g i hi];by_cases hij:j=i
  ·subst hij;simp [aj2,hi]
  ·rw [if_neg hij,if_neg (Ne.symm hij)]
 ·by_cases hij:j=i
  ·subst hij;simp [hi,rowOf]
  ·rw [if_neg hij];simp [rowOf,hi]
def uo (B n:Nat)(g:Nat→Nat)(w:World):Prop:=w.ownsRow B 3 1 (.slice (some ⟨B,0,none⟩) n n) n (rowOf n g)
theorem uo.cell {B n:Nat}{g:Nat→Nat}{w:World}(h:uo B n g w)(j:Nat)(hj:j < n):w.cell? ⟨B,j,none⟩=some (.int .i64 (g j)):=by
 have:=World.ownsRow.cellAt h j (by omega)
 rw [this,KP n g j hj]
theorem uo.free {B n:Nat}{g:Nat→Nat}{w:World}(h:uo B n g w)(j:Nat):w.frozen? ⟨B,j,none⟩=false:=World.ownsRow.frozenAt h j
theorem uo.put {B n:Nat}{g:Nat→Nat}{w:World}(h:uo B n g w)(j u:Nat):uo B n (fun t=>if t=j then u else g t) (w.setCell ⟨B,j,none⟩ (.int .i64 u)):=by
 have:=(World.ownsRow.stored h j (.int .i64 u)).1
 unfold uo;rw [← acp];exact this
theorem UL (n:Nat):(madeCells (Value.int .i64 0).cells (n * 1)).toList=rowOf n (fun _=>0):=by
 rw [Nat.mul_one];show (madeCells #[Value.int .i64 0] n).toList=_;rw [toList_madeCells_one];apply Zu;intro i;by_cases hi:i < n
 ·rw [KP n _ i hi];simp [hi]
 ·simp [rowOf,hi]
@[go_sem high] theorem amo {P:Program} (w:World) (ts:Array TypeId) (t:TypeId) (x y z:Int) :
  (Builtin.min_ ts t #[.int .i64 x,.int .i64 y,.int .i64 z]).run P w=.ok (.int .i64 (min (min x y) z)) w:=by
 rw [run_min_int3];congr 2
 rw [Int.min_def,Int.min_def];repeat' split
 all_goals omega
theorem Xm (va vb:Value)(a b:List Int)(w:World)(ha:Rd w va a.length 1 (a.map (Value.int .i32)))(hb:Rd w vb b.length 1 (b.map (Value.int .i32)))(hna:a.length≤100000000)(hnb:b.length≤100000000) :
  Calls Tryz.prog 127 #[va,vb] w fun e w'=>e=.returned (.int .i64 (D.pre a b a.length b.length))∧Below w.heap.size w w':=by
 obtain ⟨aa,ca,rfl⟩:∃ x c,va=.slice x a.length c:=by
  rcases ha.2 with ⟨x,c,rfl,h0⟩ | ⟨blk,off,cap,rfl,_⟩
  ·exact ⟨x,c,by rw [h0]⟩
  ·exact ⟨_,cap,rfl⟩
 obtain ⟨ab,cb,rfl⟩:∃ x c,vb=.slice x b.length c:=by
  rcases hb.2 with ⟨x,c,rfl,h0⟩ | ⟨blk,off,cap,rfl,_⟩
  ·exact ⟨x,c,by rw [h0]⟩
  ·exact ⟨_,cap,rfl⟩
 have Ha:Hid (∀ i,i < a.length→∃ blk off x,aa=some ⟨blk,off,none⟩∧blk < w.heap.size∧a[i]? =some x∧w.cell? ⟨blk,off + i,none⟩=some (.int .i32 x)):=by
  intro i hi;rcases ha.2 with ⟨x,c,he,h0⟩ | ⟨blk,off,cap,he,hk,hc⟩
  ·omega
  ·cases he;exact ⟨blk,off,_,rfl,hk,Z8 hi,hc i _ (by simp [hi])⟩
 have Hb:Hid (∀ i,i < b.length→∃ blk off x,ab=some ⟨blk,off,none⟩∧blk < w.heap.size∧b[i]? =some x∧w.cell? ⟨blk,off + i,none⟩=some (.int .i32 x)):=by
  intro i hi;rcases hb.2 with ⟨x,c,he,h0⟩ | ⟨blk,off,cap,he,hk,hc⟩
  ·omega
  ·cases he;exact ⟨blk,off,_,rfl,hk,Z8 hi,hc i _ (by simp [hi])⟩
 clear ha hb;go_enter Tryz.func127,Tryz.ntmps127
 go_wp2_with (at_make;refine QZ Gz rfl _ _ rfl w.heap.size (b.length + 1) _ _ rfl rfl (by omega) (by omega) (Z5 _) (by omega) (by decide) ?_;intro w1 hown1 hg1 hl1;rw [UL] at hown1;clear hg1)
 have KQ:=Z9 (show uo w.heap.size (b.length + 1) (fun _=>0) w1 from hown1);clear hown1;go_loopw [19] (fun i wr=>∃ k g,k≤b.length + 1∧i=.int .i64 k∧uo w.heap.size (b.length + 1) g wr∧(∀ t,t < k→g t=t)∧Below w.heap.size w wr) (fun i _=>b.length + 1 - (intOf i).toNat)
 case atStart=>exact ⟨0,fun _=>0,by omega,rfl,KQ.out,fun t ht=>absurd ht (by omega),hl1⟩
 case round =>
  obtain ⟨k,g,hk,rfl,hrow,hg,hbl⟩:=hrel;clear KQ hl1;have dR:=Z9 hrow;have Hg:=Z9 hg;clear hrow hg;by_cases hlt:k < b.length + 1
  ·have c1:=dR.out.cell k hlt;have f1:=dR.out.free k;go_wp2_with fail
   go_roundw
   case rel =>
    refine ⟨k + 1,_,by omega,by go_num,dR.out.put k k,fun t ht=>?_,hbl.setCell (p:=⟨w.heap.size,k,none⟩) (Z5 _) _⟩;by_cases h:t=k
    ·rw [if_pos h,h]
    ·rw [if_neg h];exact Hg.out t (by omega)
   case measure=>simp [intOf];omega
  ·have uI:Hid (∀ t,t≤b.length→g t=D.pre a b 0 t):=fun t ht=>Hg.out t (by omega);clear Hg;go_wp2_with fail
   obtain ⟨wo,hwo⟩:∃ wo:World,wo=wr:=⟨_,rfl⟩;subst hwo;go_loopw [29] (fun i wr=>∃ k g,k≤a.length∧i=.int .i64 k∧uo w.heap.size (b.length + 1) g wr∧(∀ t,t≤b.length→g t=D.pre a b k t)∧Below w.heap.size w wr) (fun i _=>a.length - (intOf i).toNat)
   case atStart=>exact ⟨0,g,by omega,rfl,dR.out,uI.out,hbl⟩
   case round =>
    clear uI dR hbl hlt hk;obtain ⟨i,g2,hi,rfl,hrow,hg,hbl⟩:=hrel;have dR:=Z9 hrow;have Hg:=Z9 hg;clear hrow hg;by_cases hlt:i < a.length
    ·have c0:=dR.out.cell 0 (by omega);rw [Hg.out 0 (by omega),D.OV a b i] at c0;have f0:=dR.out.free 0;obtain ⟨blk,off,x,rfl,hblk,hx,hca⟩:=Ha.out i hlt;have Hx:=Z9 hx;clear hx;have aj3:wr.cell? ⟨blk,off + i,none⟩=some (.int .i32 x):=by rw [hbl.cell (p:=⟨blk,off + i,none⟩) hblk];exact hca
     clear hca;have acr:=Z9 (dR.out.put 0 (i + 1));have Ac:=hbl.setCell (p:=⟨w.heap.size,0,none⟩) (Z5 _) (.int .i64 ((i + 1:Nat):Int));go_wp2_with fail
     have e1:(.int .i64 ((i:Int) + 1):Value)=.int .i64 ((i + 1:Nat):Int):=by go_num
     rw [e1];clear e1 c0 f0 aj3;generalize wr.setCell ⟨w.heap.size,0,none⟩ (.int .i64 ((i + 1:Nat):Int))=wz at *;go_loopw [9,43] (fun bf j wr=>∃ k g,k≤b.length∧j=.int .i64 k∧bf=.int .i64 (D.pre a b i k)∧uo w.heap.size (b.length + 1) g wr∧(∀ t,t≤b.length→g t=if t≤k then D.pre a b (i + 1) t else D.pre a b i t)∧Below w.heap.size w wr) (fun _ j _=>b.length - (intOf j).toNat)
     case atStart =>
      refine ⟨0,_,by omega,rfl,by rw [D.OV],acr.out,fun t ht=>?_,Ac⟩;by_cases h:t=0
      ·subst h;simp [D.OV]
      ·rw [if_neg h,if_neg (by omega)];exact Hg.out t ht
     case round =>
      clear acr Ac dR Hg hbl;obtain ⟨j,g3,hj,rfl,rfl,hrow,hg,hbl⟩:=hrel;have dR:=Z9 hrow;have Hg:=Z9 hg;clear hrow hg;by_cases hjl:j < b.length
      ·obtain ⟨UM,off2,y,rfl,hblk2,hy,hcb⟩:=Hb.out j hjl;have Hy:=Z9 hy;clear hy;have hcb':wr.cell? ⟨UM,off2 + j,none⟩=some (.int .i32 y):=by rw [hbl.cell (p:=⟨UM,off2 + j,none⟩) hblk2];exact hcb
       clear hcb;have cj:=dR.out.cell j (by omega);have cj1:=dR.out.cell (j + 1) (by omega);rw [Hg.out j (by omega),if_pos (Z5 _)] at cj;rw [Hg.out (j + 1) (by omega),if_neg (by omega)] at cj1;have fj1:=dR.out.free (j + 1);have l1:=D.KO a b i j;have l2:=D.KO a b (i + 1) j;have l3:=D.KO a b i (j + 1);have Hs:=Z9 (D.acn a b i j);have rH:=Z9 (dR.out.put (j + 1) (D.pre a b (i + 1) (j + 1)));have EC:=hbl.setCell (p:=⟨w.heap.size,j + 1,none⟩) (Z5 _) (.int .i64 ((D.pre a b (i + 1) (j + 1):Nat):Int));have KR:Hid (∀ t,t≤b.length→(fun t=>if t=j + 1 then D.pre a b (i + 1) (j + 1) else g3 t) t=if t≤j + 1 then D.pre a b (i + 1) t else D.pre a b i t):=fun t ht=>by
        show (if t=j + 1 then _ else _)=_;by_cases h:t=j + 1
        ·subst h;simp
        ·rw [if_neg h,Hg.out t ht];by_cases h2:t≤j
         ·rw [if_pos h2,if_pos (by omega)]
         ·rw [if_neg h2,if_neg (by omega)]
       obtain ⟨p1,hp1⟩:∃ p,D.pre a b i j=p:=⟨_,rfl⟩;obtain ⟨p2,hp2⟩:∃ p,D.pre a b (i + 1) j=p:=⟨_,rfl⟩;obtain ⟨p3,hp3⟩:∃ p,D.pre a b i (j + 1)=p:=⟨_,rfl⟩;have KT:=Z9 hp3;rw [hp1,hp2,hp3] at Hs;rw [hp2] at cj;rw [hp3] at cj1;rw [hp1] at l1 ⊢;rw [hp2] at l2;rw [hp3] at l3;clear hp1 hp2 hp3;by_cases hxy:x=y
       ·have e1:(x != y)=false:=by simp [hxy]
        have hab:a[i]? =b[j]? :=by rw [Hx.out,Hy.out,hxy]
        rw [if_pos hab] at Hs;have Hv:Hid (min (min (p1:Int) ((p2:Int) + 1)) ((p3:Int) + 1)=((D.pre a b (i + 1) (j + 1):Nat):Int)):=by show _=_;rw [Hs.out];omega
        clear hxy hab;go_wp2_with fail
        rw [show (min (p1:Int) (min (p2:Int) (p3:Int) + 1))=((D.pre a b (i + 1) (j + 1):Nat):Int) from by rw [← Hv.out];omega];go_roundw
        case rel=>exact ⟨j + 1,_,by omega,by go_num,by rw [KT.out],rH.out,KR.out,EC⟩
        case measure=>simp [intOf];omega
       ·have e1:(x != y)=true:=by simpa using hxy
        have hab:¬ a[i]? =b[j]? :=by rw [Hx.out,Hy.out];intro h;exact hxy (Option.some.inj h)
        rw [if_neg hab] at Hs;have Hv:Hid (min (min ((p1:Int) + 1) ((p2:Int) + 1)) ((p3:Int) + 1)=((D.pre a b (i + 1) (j + 1):Nat):Int)):=by show _=_;rw [Hs.out];omega
        clear hxy hab;go_wp2_with fail
        rw [show (min (p1:Int) (min (p2:Int) (p3:Int)) + 1)=((D.pre a b (i + 1) (j + 1):Nat):Int) from by rw [← Hv.out];omega];go_roundw
        case rel=>exact ⟨j + 1,_,by omega,by go_num,by rw [KT.out],rH.out,KR.out,EC⟩
        case measure=>simp [intOf];omega
      ·go_wp2_with fail
       go_roundw
       case rel =>
        refine ⟨i + 1,g3,by omega,by go_num,dR.out,fun t ht=>?_,hbl⟩;rw [Hg.out t ht,if_pos (by omega)]
       case measure=>simp [intOf];omega
    ·have hia:i=a.length:=by omega
     have cm:=dR.out.cell b.length (by omega);rw [Hg.out b.length (Z5 _),hia] at cm;clear hia;go_wp2_with fail
     go_ret;exact ⟨rfl,hbl⟩
end
section
open Go.RowKit
theorem acs:(Tryz.prog.info? 202).map (·.size)=some 2:=by kernel_rfl
theorem aj6:liesAt Tryz.prog Tryz.prog.depth 202 (2 / Tryz.prog.cellsOf 202) 0 202 1=true:=by kernel_rfl
theorem acu:(Tryz.prog.info? 5).map (fun i=>(i.zero,i.size,i.bytes))=some (some (.int .u8 0),1,1):=by kernel_rfl
theorem aj7 (b:Nat)(w:World)(h0:w.cell? ⟨b,0,none⟩=some (.pointer (some ⟨b,0,none⟩))) :
  Calls Tryz.prog 208 #[.pointer (some ⟨b,0,none⟩)] w fun e w'=>e=.returned (.tuple #[])∧w'=w:=by
 obtain ⟨j,hj,_⟩:=Option.map_eq_some_iff.1 acs;go_enter Tryz.func208,Tryz.ntmps208
 go_wp2
 rw [Lib.run_neq_ptr_same w _ Tryz.underlying199 hj];go_wp2
 go_end0;exact ⟨rfl,rfl⟩
theorem aj8 (b:Nat)(w:World)(h0:w.cell? ⟨b,0,none⟩=some (.pointer none))(hsh:w.shape? b=some (202,2))(hfz:w.frozen? ⟨b,0,none⟩=false) :
  Calls Tryz.prog 208 #[.pointer (some ⟨b,0,none⟩)] w fun e w'=>e=.returned (.tuple #[])∧w'=w.setCell ⟨b,0,none⟩ (.pointer (some ⟨b,0,none⟩)):=by
 obtain ⟨j,hj,hjs⟩:=Option.map_eq_some_iff.1 acs;go_enter Tryz.func208,Tryz.ntmps208
 go_wp2
 rw [Lib.run_to_unsafe w ⟨b,0,none⟩ Tryz.underlying199 Tryz.underlying325 hj (by rw [hjs];decide) hsh (Nat.zero_lt_succ 1)];simp only [Result.andThen];rw [Oper.upon_value];go_wp2
 rw [run_callFunc_extern Tryz.func281 (by kernel_rfl) (by kernel_rfl) (by kernel_rfl) (e:=Extern.AbiNoEscape.same) (by kernel_rfl)];rw [Lib.run_noEscape];simp only [Result.andThen];rw [Oper.upon_value];go_wp2
 rw [Lib.run_from_unsafe w ⟨b,0,none⟩ Tryz.underlying325 Tryz.underlying199 hj hsh aj6];simp only [Result.andThen];rw [Oper.upon_value];go_wp2
 go_end0;exact ⟨rfl,rfl⟩
theorem acv (B b:Nat)(bs:List Value)(w:World)(h:Lib.IsBuilder 202 5 B b bs w) :
  Calls Tryz.prog 208 #[.pointer (some ⟨b,0,none⟩)] w fun e w'=>e=.returned (.tuple #[])∧(Lib.BuilderAt 202 5 B b (.pointer (some ⟨b,0,none⟩)) bs w'∧Below B w w'):=by
 rcases h with h | h
 ·refine (aj8 b w h.cell0 h.shape h.frozen0).mono ?_;rintro e w' ⟨rfl,rfl⟩;exact ⟨rfl,h.used _,(ZX B w).setCell (p:=⟨b,0,none⟩) h.1 _⟩
 ·refine (aj7 b w h.cell0).mono ?_;rintro e w' ⟨rfl,rfl⟩;exact ⟨rfl,h,ZX B _⟩
theorem KU {B b:Nat}{bs:List Value}{w:World}(h:Lib.BuilderAt 202 5 B b (.pointer (some ⟨b,0,none⟩)) bs w):Lib.IsBuilder 202 5 B b bs w:=Or.inr h
theorem aj9 (w:World):Lib.IsBuilder 202 5 w.heap.size w.heap.size [] (w.alloc (.cells #[.pointer none,.slice none 0 0] 202)):=by
 refine .inl ⟨Z5 _,.slice none 0 0,?_,World.ownsRow_nil _ _ _ _,by simp [Value.ownBlock]⟩;show (w.heap.push _)[w.heap.size]? =_;simp
theorem y9 (B b:Nat)(bs:List Value)(c:Int)(w:World)(h:Lib.IsBuilder 202 5 B b bs w)(hlen:bs.length + 1≤140737488355328)(hBw:B≤w.heap.size) :
  Calls Tryz.prog 129 #[.pointer (some ⟨b,0,none⟩),.int .u8 c] w fun e w'=>e=.returned .nilIface∧(Lib.BuilderAt 202 5 B b (.pointer (some ⟨b,0,none⟩)) (bs++[.int .u8 c]) w'∧Below B w w'):=by
 obtain ⟨i0,hi,hz0,hz1,hz2⟩:=info_parts acu;go_enter Tryz.func129,Tryz.ntmps129
 go_wp2_with (go_at_call 208;refine (acv B b bs _ h).mono ?_)
 rintro e w1 ⟨rfl,h1,hb1⟩;obtain ⟨hB,v,hbk,hown,hne⟩:=h1;have c0:w1.cell? ⟨b,0,none⟩=some (.pointer (some ⟨b,0,none⟩)):=by rw [Y0 hbk];rfl
 have c1:w1.cell? ⟨b,1,none⟩=some v:=by rw [Y0 hbk];rfl
 go_wp2_with (at_builtin;refine wpList_append_own _ rfl _ _ 200 rfl B 5 i0 (.int .u8 0) 1 1 Tryz.underlying200 hi hz0 hz1 hz2 rfl (by decide) _ _ _ rfl (hown.alloc _) ⟨w1.heap.size,0,none⟩ 1 1 [.int .u8 c] rfl rfl ?c1 ?c2 ?c3 ?c4 ?c5 ?_)
 case c1 =>
  intro j u hj;match j,hj with
  | 0,hj=>simp at hj;subst hj;simp [Addr.add]
 case c2=>intro u hu;simp at hu;subst hu;rfl
 case c3=>unfold maxLen;omega
 case c4=>omega
 case c5=>have:=hb1.size;simp;omega
 intro v' w2 hown' hgrow _;have hlt:b < w1.heap.size:=by
  rcases YL b w1.heap.size with h' | h'
  ·exact h'
  ·simp [Array.getElem?_eq_none h'] at hbk
 have hb2:w2.heap[b]? =some (.cells #[.pointer (some ⟨b,0,none⟩),v] 202 (0,0)):=by
  rw [hgrow.block b (by simp;omega) (fun e=>hne e.symm),Lib.alloc_old w1 _ b hlt];exact hbk
 have d0:w2.cell? ⟨b,0,none⟩=some (.pointer (some ⟨b,0,none⟩)):=by rw [Y0 hb2];rfl
 have d1:w2.cell? ⟨b,1,none⟩=some v:=by rw [Y0 hb2];rfl
 have f1:w2.frozen? ⟨b,1,none⟩=false:=Lib.frozen_of_heap hb2 1;obtain ⟨g,cap,rfl⟩:∃ g cap,v'=.slice (some ⟨g,0,none⟩) (bs.length + 1) cap:=by
  rcases hown'.2 with ⟨_,h0⟩ | ⟨g,cap,cur,hv,_⟩
  ·omega
  ·exact ⟨g,cap,hv⟩
 go_wp2
 go_ret;refine ⟨rfl,?_,?_⟩
 ·exact Lib.BuilderAt.put (T:=202) (e:=5) hB hb2 (bs':=bs++[.int .u8 c]) (by simpa using hown') (by decide)
 ·exact ((hb1.alloc (by have:=hb1.size;omega) _).grown hgrow (by have:=hb1.size;simp;omega) (fun k hk=>(hown.lt k hk).1)).setCell (p:=⟨b,1,none⟩) hB _
theorem acw (B b:Nat)(bs:List Value)(s:ByteArray)(w:World)(h:Lib.IsBuilder 202 5 B b bs w)(hlen:bs.length + s.size≤140737488355328)(hBw:B≤w.heap.size) :
  Calls Tryz.prog 130 #[.pointer (some ⟨b,0,none⟩),.string s] w fun e w'=>e=.returned (.tuple #[.int .i64 s.size,.nilIface])∧(Lib.BuilderAt 202 5 B b (.pointer (some ⟨b,0,none⟩)) (bs++Lib.strCells s) w'∧Below B w w'):=by
 obtain ⟨i0,hi,hz0,hz1,hz2⟩:=info_parts acu;go_enter Tryz.func130,Tryz.ntmps130
 go_wp2_with (go_at_call 208;refine (acv B b bs _ h).mono ?_)
 rintro e w1 ⟨rfl,h1,hb1⟩;obtain ⟨hB,v,hbk,hown,hne⟩:=h1;have c0:w1.cell? ⟨b,0,none⟩=some (.pointer (some ⟨b,0,none⟩)):=by rw [Y0 hbk];rfl
 have c1:w1.cell? ⟨b,1,none⟩=some v:=by rw [Y0 hbk];rfl
 go_wp2_with (at_builtin;refine Lib.wpList_append_own_string _ rfl _ _ 200 9 rfl B 5 i0 Tryz.underlying200 Tryz.underlying9 hi hz0 hz1 hz2 _ _ _ rfl hown s rfl ?c3 ?c4 ?c5 ?_)
 case c3=>unfold maxLen;omega
 case c4=>omega
 case c5=>have:=hb1.size;omega
 intro v' w2 hown' hgrow _;have hlt:b < w1.heap.size:=by
  rcases YL b w1.heap.size with h' | h'
  ·exact h'
  ·simp [Array.getElem?_eq_none h'] at hbk
 have hb2:w2.heap[b]? =some (.cells #[.pointer (some ⟨b,0,none⟩),v] 202 (0,0)):=by
  rw [hgrow.block b hlt (fun e=>hne e.symm)];exact hbk
 have d0:w2.cell? ⟨b,0,none⟩=some (.pointer (some ⟨b,0,none⟩)):=by rw [Y0 hb2];rfl
 have d1:w2.cell? ⟨b,1,none⟩=some v:=by rw [Y0 hb2];rfl
 have f1:w2.frozen? ⟨b,1,none⟩=false:=Lib.frozen_of_heap hb2 1;obtain ⟨ao,n',cap,rfl⟩:∃ ao n' cap,v'=.slice ao n' cap:=by
  rcases hown'.2 with ⟨hv,_⟩ | ⟨g,cap,cur,hv,_⟩
  ·exact ⟨_,_,_,hv⟩
  ·exact ⟨_,_,_,hv⟩
 go_wp2
 go_ret2
 refine ⟨rfl,?_,?_⟩
 ·exact Lib.BuilderAt.put (T:=202) (e:=5) hB hb2 (bs':=bs++Lib.strCells s) (by simpa [Zm] using hown') (by decide)
 ·exact (hb1.grown hgrow (by have:=hb1.size;omega) (fun k hk=>(hown.lt k hk).1)).setCell (p:=⟨b,1,none⟩) hB _
end
end Go.Proofs.YtmkkppknaikjjaaGreatDoor
namespace Go.Proofs.YtmkkppknaikjjaaGreatDoor.Q
def KW (n:Nat):UInt8:=([48,49,50,51,52,53,54,55,56,57,97,98,99,100,101,102]:List UInt8)[n]?.getD 0
def qb (c:UInt8):List UInt8 :=
 if c.toNat=34∨c.toNat=92 then [92,c] else if c.toNat=10 then [92,110] else if c.toNat < 33∨126 < c.toNat then [92,120,KW (c.toNat / 16),KW (c.toNat % 16)] else [c]
def quote (l:List UInt8):List UInt8:=34::(l.flatMap qb++[34])
theorem akb (c:UInt8):1≤(qb c).length∧(qb c).length≤4:=by
 unfold qb;repeat' split
 all_goals simp
theorem Ez (l:List UInt8):(l.flatMap qb).length≤4 * l.length:=by
 induction l with
 | nil=>simp
 | cons c l ih=>have:=akb c;simp only [Y5,Z4,ZV];omega
theorem akc (l:List UInt8)(k:Nat)(h:k < l.length):(l.take (k + 1)).flatMap qb=(l.take k).flatMap qb++qb l[k]:=by
 rw [List.take_succ_eq_append_getElem h,List.flatMap_append];simp
def akd:List UInt8:=[48,49,50,51,52,53,54,55,56,57,97,98,99,100,101,102]
def hv (c:UInt8):Int:=YF akd c
def acy (n:Int):Prop:=(n < 33∧n≠10)∨127≤n
instance (n:Int):Decidable (acy n):=by unfold acy;infer_instance
def run (step:List UInt8→Option (UInt8×Nat))(l:List UInt8):Nat→Nat→List UInt8→Option (List UInt8×Nat)
 | 0,_,_=>none
 | f + 1,i,acc =>
  match l.drop i with
  | []=>none
  | c::r=>if c.toNat=34 then some (acc,i + 1) else match step (c::r) with
   | none=>none
   | some (x,n)=>run step l f (i + n) (acc++[x])
end Go.Proofs.YtmkkppknaikjjaaGreatDoor.Q
namespace Go.Proofs.YtmkkppknaikjjaaGreatDoor
section
open Go.RowKit
theorem ake (n:Int)(w:World)(h:(n < 33∧n≠10)∨127≤n) :
  Calls Tryz.prog 131 #[.int .u8 n] w fun e w'=>e=.returned (.bool true)∧w=w':=by
 rcases h with ⟨h1,h2⟩ | h1
 ·have h3:(n != 10)=true:=by simpa using h2
  clear h2;go_enter Tryz.func131,Tryz.ntmps131
  go_wp2
  go_ret;exact ⟨rfl,rfl⟩
 ·go_enter Tryz.func131,Tryz.ntmps131
  go_wp2
  go_ret;exact ⟨rfl,rfl⟩
theorem akf (n:Int)(w:World)(h:¬ ((n < 33∧n≠10)∨127≤n)) :
  Calls Tryz.prog 131 #[.int .u8 n] w fun e w'=>e=.returned (.bool false)∧w=w':=by
 by_cases hn:n=10
 ·subst hn;clear h;go_enter Tryz.func131,Tryz.ntmps131
  go_wp2
  go_ret;exact ⟨rfl,rfl⟩
 ·have h1:¬ n < 33:=by omega
  have h2:¬ 127≤n:=by omega
  clear h hn;go_enter Tryz.func131,Tryz.ntmps131
  go_wp2
  go_ret;exact ⟨rfl,rfl⟩
def ED (B b:Nat)(l:List UInt8)(w:World)(k:Nat)(wr:World):Prop :=
 Lib.IsBuilder 202 5 B b (Zj (34::(l.take k).flatMap Q.qb)) wr∧Below B w wr
theorem ED.mk {B b:Nat}{l:List UInt8}{w wr wn:World}{k:Nat}(hk:k < l.length)(h:ED B b l w k wr)(hl:Below B wr wn)(t:List UInt8)(ht:t=Q.qb l[k])
  (hb:Lib.BuilderAt 202 5 B b (.pointer (some ⟨b,0,none⟩)) (Zj (34::(l.take k).flatMap Q.qb)++Zj t) wn):ED B b l w (k + 1) wn:=by
 refine ⟨.inr ?_,h.2.trans hl⟩;rw [Q.akc l k hk,← ht];simpa [Zj] using hb
theorem akg (l:List UInt8):(Zj l).length=l.length:=by simp [Zj]
theorem akh (l:List UInt8)(k:Nat)(h:k≤l.length):(Zj (34::(l.take k).flatMap Q.qb)).length≤4 * l.length + 1:=by
 have h1:=Q.Ez (l.take k);have h2:(l.take k).length≤l.length:=by simp;omega
 rw [akg,ZV];omega
theorem acz (n:Nat)(h:n < (ByteArray.mk #[48,49,50,51,52,53,54,55,56,57,97,98,99,100,101,102]).size):(ByteArray.mk #[48,49,50,51,52,53,54,55,56,57,97,98,99,100,101,102])[n]'h=Q.KW n:=by
 have h':n < 16:=h;obtain rfl | rfl | rfl | rfl | rfl | rfl | rfl | rfl | rfl | rfl | rfl | rfl | rfl | rfl | rfl | rfl:n=0∨n=1∨n=2∨n=3∨n=4∨n=5∨n=6∨n=7∨n=8∨n=9∨n=10∨n=11∨n=12∨n=13∨n=14∨n=15:=by omega
 all_goals rfl
theorem aif (s:ByteArray)(w:World)(hs:s.size≤1000000000) :
  Calls Tryz.prog 64 #[.string s] w fun e w'=>e=.returned (.string ⟨(Q.quote s.data.toList).toArray⟩)∧Below w.heap.size w w':=by
 have Hb0:=Z9 (aj9 w);have uy:Hid (Below w.heap.size w (w.alloc (.cells #[.pointer none,.slice none 0 0] 202))):=(ZX _ _).alloc (Z5 _) _;have hsl:s.data.toList.length=s.size:=rfl;have qK:=Z9 hsl;clear hsl;go_enter Tryz.func64,Tryz.ntmps64
 go_wp2_with fail
 refine (y9 w.heap.size w.heap.size [] _ _ Hb0.out (by simp) (by simp)).mono ?_;rintro e w1 ⟨rfl,hb1,hl1⟩;clear Hb0;have KQ:ED w.heap.size w.heap.size s.data.toList w 0 w1:=⟨.inr (by simpa [Zj] using hb1),uy.out.trans hl1⟩;clear hb1 hl1 uy;go_wp2_with fail
 go_loopw [9] (fun i wr=>∃ k:Nat,k≤s.size∧i=.int .i64 k∧ED w.heap.size w.heap.size s.data.toList w k wr) (fun i _=>s.size - (intOf i).toNat)
 case atStart=>exact ⟨0,ZN _,rfl,KQ⟩
 case round =>
  obtain ⟨k,hk,rfl,hr⟩:=hrel;clear KQ;have hsz:w.heap.size≤wr.heap.size:=hr.2.size;have hlen:=akh s.data.toList k (by rw [qK.out];exact hk);rw [qK.out] at hlen;have Hb:=Z9 hr.1;by_cases hlt:k < s.size
  ·have c1:(s[k].toNat:Int) < 256:=by have:=s[k].toNat_lt;omega
   have Hq:Hid (∀ t:List UInt8,t=Q.qb s[k]→∀ wn,Below w.heap.size wr wn→Lib.BuilderAt 202 5 w.heap.size w.heap.size (.pointer (some ⟨w.heap.size,0,none⟩)) (Zj (34::(s.data.toList.take k).flatMap Q.qb)++Zj t) wn→ED w.heap.size w.heap.size s.data.toList w (k + 1) wn) :=
    fun t ht wn hl hb=>ED.mk (by rw [qK.out];exact hlt) hr hl t (by rw [ht];rfl) hb
   clear hr;by_cases hA:s[k].toNat=34∨s[k].toNat=92
   ·have HA:=Z9 hA;have BL:Hid ([92,s[k]]=Q.qb s[k]):=by show _=_;rw [Q.qb,if_pos hA]
    rcases hA with hA | hA
    ·have e1:((s[k].toNat:Int)==34)=true:=by simp [hA]
     clear hA;go_wp2_with fail
     refine (y9 w.heap.size w.heap.size _ _ _ Hb.out (by (repeat (first | rw [Z4] | rw [ZV] | rw [ZO] | rw [Zm]));first | omega | (simp only [ByteArray.size,ZC,ZV,ZO];omega)) (by omega)).mono ?_;rintro e w2 ⟨rfl,wu,kG⟩;have D6:=kG.size;go_wp2_with fail
     refine (y9 w.heap.size w.heap.size _ _ _ (KU wu) (by (repeat (first | rw [Z4] | rw [ZV] | rw [ZO] | rw [Zm]));first | omega | (simp only [ByteArray.size,ZC,ZV,ZO];omega)) (by omega)).mono ?_;rintro e w3 ⟨rfl,KX,oL⟩;have acA:=oL.size;go_wp2_with fail
     go_roundw
     case rel=>exact ⟨k + 1,by omega,by go_num,Hq.out _ BL.out _ (kG.trans oL) (by simpa [Zj] using KX)⟩
     case measure=>simp [intOf];omega
    ·have e1:((s[k].toNat:Int)==34)=false:=by simp [hA]
     have e2:((s[k].toNat:Int)==92)=true:=by simp [hA]
     clear hA;go_wp2_with fail
     refine (y9 w.heap.size w.heap.size _ _ _ Hb.out (by (repeat (first | rw [Z4] | rw [ZV] | rw [ZO] | rw [Zm]));first | omega | (simp only [ByteArray.size,ZC,ZV,ZO];omega)) (by omega)).mono ?_;rintro e w2 ⟨rfl,wu,kG⟩;have D6:=kG.size;go_wp2_with fail
     refine (y9 w.heap.size w.heap.size _ _ _ (KU wu) (by (repeat (first | rw [Z4] | rw [ZV] | rw [ZO] | rw [Zm]));first | omega | (simp only [ByteArray.size,ZC,ZV,ZO];omega)) (by omega)).mono ?_;rintro e w3 ⟨rfl,KX,oL⟩;have acA:=oL.size;go_wp2_with fail
     go_roundw
     case rel=>exact ⟨k + 1,by omega,by go_num,Hq.out _ BL.out _ (kG.trans oL) (by simpa [Zj] using KX)⟩
     case measure=>simp [intOf];omega
   ·have e1:((s[k].toNat:Int)==34)=false:=by simp;omega
    have e2:((s[k].toNat:Int)==92)=false:=by simp;omega
    by_cases hB:s[k].toNat=10
    ·have e3:((s[k].toNat:Int)==10)=true:=by simp [hB]
     have BL:Hid ([92,110]=Q.qb s[k]):=by show _=_;rw [Q.qb,if_neg hA,if_pos hB]
     clear hA hB;go_wp2_with fail
     refine (acw w.heap.size w.heap.size _ _ _ Hb.out (by (repeat (first | rw [Z4] | rw [ZV] | rw [ZO] | rw [Zm]));first | omega | (simp only [ByteArray.size,ZC,ZV,ZO];omega)) (by omega)).mono ?_;rintro e w2 ⟨rfl,wu,kG⟩;have D6:=kG.size;go_wp2_with fail
     go_roundw
     case rel=>exact ⟨k + 1,by omega,by go_num,Hq.out _ BL.out _ kG (by simpa [Zj,Lib.strCells] using wu)⟩
     case measure=>simp [intOf];omega
    ·have e3:((s[k].toNat:Int)==10)=false:=by simp;omega
     by_cases hC:s[k].toNat < 33∨126 < s[k].toNat
     ·have BL:Hid ([92,120,Q.KW (s[k].toNat / 16),Q.KW (s[k].toNat % 16)]=Q.qb s[k]):=by show _=_;rw [Q.qb,if_neg hA,if_neg hB,if_pos hC]
      have hh:(((s[k].toNat:Int) < 33∧(s[k].toNat:Int)≠10)∨127≤(s[k].toNat:Int)):=by omega
      have Hh:=Z9 hh;clear hA hB hC hh;go_wp2_with fail
      refine (ake _ _ Hh.out).mono ?_;rintro e wx ⟨rfl,rfl⟩;go_wp2_with fail
      refine (acw w.heap.size w.heap.size _ _ _ Hb.out (by (repeat (first | rw [Z4] | rw [ZV] | rw [ZO] | rw [Zm]));first | omega | (simp only [ByteArray.size,ZC,ZV,ZO];omega)) (by omega)).mono ?_;rintro e w2 ⟨rfl,wu,kG⟩;have D6:=kG.size;go_wp2_with fail
      rw [acz];go_wp2_with fail
      refine (y9 w.heap.size w.heap.size _ _ _ (KU wu) (by (repeat (first | rw [Z4] | rw [ZV] | rw [ZO] | rw [Zm]));first | omega | (simp only [ByteArray.size,ZC,ZV,ZO];omega)) (by omega)).mono ?_;rintro e w3 ⟨rfl,KX,oL⟩;have acA:=oL.size;go_wp2_with fail
      rw [acz];go_wp2_with fail
      refine (y9 w.heap.size w.heap.size _ _ _ (KU KX) (by (repeat (first | rw [Z4] | rw [ZV] | rw [ZO] | rw [Zm]));first | omega | (simp only [ByteArray.size,ZC,ZV,ZO];omega)) (by omega)).mono ?_;rintro e w4 ⟨rfl,aki,D5⟩;have amq:=D5.size;go_wp2_with fail
      go_roundw
      case rel=>exact ⟨k + 1,by omega,by go_num,Hq.out _ BL.out _ ((kG.trans oL).trans D5) (by simpa [Zj,Lib.strCells] using aki)⟩
      case measure=>simp [intOf];omega
     ·have BL:Hid ([s[k]]=Q.qb s[k]):=by show _=_;rw [Q.qb,if_neg hA,if_neg hB,if_neg hC]
      have hh:¬ (((s[k].toNat:Int) < 33∧(s[k].toNat:Int)≠10)∨127≤(s[k].toNat:Int)):=by omega
      have Hh:=Z9 hh;clear hA hB hC hh;go_wp2_with fail
      refine (akf _ _ Hh.out).mono ?_;rintro e wx ⟨rfl,rfl⟩;go_wp2_with fail
      refine (y9 w.heap.size w.heap.size _ _ _ Hb.out (by (repeat (first | rw [Z4] | rw [ZV] | rw [ZO] | rw [Zm]));first | omega | (simp only [ByteArray.size,ZC,ZV,ZO];omega)) (by omega)).mono ?_;rintro e w2 ⟨rfl,wu,kG⟩;have D6:=kG.size;go_wp2_with fail
      go_roundw
      case rel=>exact ⟨k + 1,by omega,by go_num,Hq.out _ BL.out _ kG (by simpa [Zj] using wu)⟩
      case measure=>simp [intOf];omega
  ·have hke:s.data.toList.take k=s.data.toList:=List.take_of_length_le (by rw [qK.out];omega);have hr2:=hr.2;rw [hke] at Hb hlen;clear hke hr;go_wp2_with fail
   refine (y9 w.heap.size w.heap.size _ _ _ Hb.out (by (repeat (first | rw [Z4] | rw [ZV] | rw [ZO] | rw [Zm]));first | omega | (simp only [ByteArray.size,ZC,ZV,ZO];omega)) (by omega)).mono ?_;rintro e w2 ⟨rfl,wu,kG⟩;have D6:=kG.size;go_wp2_with fail
   refine (Tryz.Builder_String w.heap.size w.heap.size (Q.quote s.data.toList) _ (KU (by simpa [Zj,Q.quote] using wu)) (by simp [Q.quote])).mono ?_;rintro e w3 ⟨rfl,hl3⟩;go_wp2
   go_ret;exact ⟨rfl,(hr2.trans kG).trans hl3⟩
end
section
open Go.RowKit
def pts:Nat→ByteArray→List Int
 | 0,_=>[]
 | f + 1,s=>if s.size=0 then [] else
  (if (ZI s).1=65533∧(ZI s).2=1 then -1 - ((s[0]?.map UInt8.toNat).getD 0:Int) else (ZI s).1)::pts f (s.extract (ZI s).2 s.size)
theorem Na (f:Nat)(s:ByteArray)(h:s.size=0):pts f s=[]:=by cases f <;> simp [pts,h]
theorem Jh (f:Nat)(s:ByteArray)(h:0 < s.size):pts (f + 1) s=(if (ZI s).1=65533∧(ZI s).2=1 then -1 - (s[0].toNat:Int) else (ZI s).1)::pts f (s.extract (ZI s).2 s.size):=by
 have e:s[0]? =some s[0]:=getElem?_pos s 0 h;rw [pts,if_neg (by omega),e];rfl
theorem Jg (s:ByteArray)(h:0 < s.size):1≤(ZI s).2∧(ZI s).2≤s.size∧(ZI s).1≤1114111:=by
 refine ⟨?_,Lib.decodeGo_le_size s,?_⟩
 ·unfold ZI;rw [if_neg (by omega)];exact Lib.width_pos s 0
 ·unfold ZI;rw [if_neg (by omega)];exact Lib.rune_le s 0
theorem wS:∀ (f:Nat) (s:ByteArray),s.size≤f→(pts f s).length≤s.size
 | 0,s,_=>by simp [pts]
 | f + 1,s,h=>by
  by_cases h0:s.size=0
  ·rw [Na _ _ h0];simp
  ·have hr:=Jg s (by omega);have hz:(s.extract (ZI s).2 s.size).size=s.size - (ZI s).2:=by rw [ByteArray.size_extract];omega
   have:=wS f (s.extract (ZI s).2 s.size) (by omega)
   rw [Jh _ _ (by omega),ZV];omega
def Qk (l:List Int)(w:World)(e:Ending)(w':World):Prop:=∃ v,e=.returned v∧w'.ownsRow w.heap.size 21 1 v l.length (l.map (Value.int .i32))∧Below w.heap.size w w'
theorem UN:kF 197 21 1 4 (.int .i32 0):=⟨Tryz.underlying197,by kernel_rfl,rfl,by decide⟩
abbrev Tabs (w:World):Prop:=Lib.Utf8Tabs 3 4 w
theorem L8 (s:ByteArray)(w:World)(hs:s.size≤1000000)(hT:Tabs w) :
  Calls Tryz.prog 128 #[.string s] w (Qk (pts s.size s) w):=by
 have HT:=Z9 hT;clear hT;go_enter Tryz.func128,Tryz.ntmps128
 go_wp2_with fail
 go_loopw [0,3] (fun r v wr=>∃ (acc:List Int) (f:Nat) (rest:ByteArray),r=.string rest∧rest.size≤f∧acc.length + rest.size≤s.size∧acc++pts f rest=pts s.size s∧wr.ownsRow w.heap.size 21 1 v acc.length (acc.map (Value.int .i32))∧Below w.heap.size w wr) (fun r _ _=>match r with | .string t=>t.size | _=>0)
 case atStart=>exact ⟨[],s.size,s,rfl,Z5 _,by simp,rfl,World.ownsRow_nil _ _ _ _,ZX _ _⟩
 case round =>
  obtain ⟨acc,f,rest,rfl,hf,hlen,hacc,hown,hbl⟩:=hrel;have zf:=Z9 hacc;have pR:=Z9 hown;clear hacc hown;have hsz:=hbl.size;rcases Nat.eq_zero_or_pos rest.size with h0 | h0
  ·have n1:=(yD h0).1;have n2:=(yD h0).2;have Hv:Hid (acc=pts s.size s):=by show _=_;rw [← zf.out,Na _ _ h0,ZH]
   clear h0;go_wp2_with fail
   go_ret;exact ⟨u3,rfl,by rw [← Hv.out];exact pR.out,hbl⟩
  ·have n1:=(yC h0).1;have n2:=(yC h0).2;have hd:=Jg rest h0;obtain ⟨g,rfl⟩:∃ g,f=g + 1:=⟨f - 1,by omega⟩;have Hp:=Z9 (Jh g rest h0);have EF:Hid (∀ w',Tabs w'→Calls Tryz.prog 207 #[.string rest] w' fun e w''=>e=.returned (.tuple #[.int .i32 (ZI rest).1,.int .i64 (ZI rest).2])∧Below w'.heap.size w' w''):=fun w' h=>Tryz.utf8_DecodeRuneInString rest w' h;obtain ⟨d,Hd⟩:∃ d,Hid (ZI rest=d):=⟨_,Z9 rfl⟩;rw [Hd.out] at hd Hp EF;obtain ⟨r,n⟩:=d;obtain ⟨hn1,hn2,hr⟩:1≤n∧n≤rest.size∧r≤1114111:=hd;clear Hd;have Hz:Hid ((rest.extract n rest.size).size=rest.size - n):=by show _=_;rw [ByteArray.size_extract];omega
   go_wp2_with fail
   refine (EF.out _ (Utf8Tabs_below HT.out (hbl.mono (Z5 _)))).mono ?_;rintro e w1 ⟨rfl,hl1⟩;have hz1:=hl1.size;clear EF;by_cases hbad:r=65533∧n=1
   ·have Hx:Hid (pts (g + 1) rest=(-1 - (rest[0].toNat:Int))::pts g (rest.extract n rest.size)):=by show _=_;rw [Hp.out,if_pos hbad]
    have e1:((r:Int)==65533)=true:=by simp [hbad.1]
    have e2:((n:Int)==1)=true:=by simp [hbad.2]
    have hc:=rest[0].toNat_lt;clear hbad Hp;go_wp2_with (at_builtin;refine Dn (w0:=w1) UN rfl _ _ rfl w.heap.size _ _ _ _ _ rfl (uN pR.out hl1) rfl rfl (by simp [Value.oneCell']) (by omega) (by omega) (by decide) ?_;intro v' w2 hb2 hg2 hl2 wB;clear hg2 wB)
    go_roundw
    case rel=>exact ⟨acc++[-1 - (rest[0].toNat:Int)],g,rest.extract n rest.size,rfl,by rw [Hz.out];omega,by rw [Hz.out,Z4];simp;omega,by rw [← zf.out,Hx.out];simp,by simpa using hb2,(hbl.trans (hl1.mono (by omega))).trans hl2⟩
    case measure=>simp [Hz.out];omega
   ·have Hx:Hid (pts (g + 1) rest=(r:Int)::pts g (rest.extract n rest.size)):=by show _=_;rw [Hp.out,if_neg hbad]
    clear Hp;by_cases h1:r=65533
    ·have e1:((r:Int)==65533)=true:=by simp [h1]
     have e2:((n:Int)==1)=false:=by simp;omega
     clear hbad h1;go_wp2_with (at_builtin;refine Dn (w0:=w1) UN rfl _ _ rfl w.heap.size _ _ _ _ _ rfl (uN pR.out hl1) rfl rfl (by simp [Value.oneCell']) (by omega) (by omega) (by decide) ?_;intro v' w2 hb2 hg2 hl2 wB;clear hg2 wB)
     go_roundw
     case rel=>exact ⟨acc++[(r:Int)],g,rest.extract n rest.size,rfl,by rw [Hz.out];omega,by rw [Hz.out,Z4];simp;omega,by rw [← zf.out,Hx.out];simp,by simpa using hb2,(hbl.trans (hl1.mono (by omega))).trans hl2⟩
     case measure=>simp [Hz.out];omega
    ·have e1:((r:Int)==65533)=false:=by simp;omega
     clear hbad h1;go_wp2_with (at_builtin;refine Dn (w0:=w1) UN rfl _ _ rfl w.heap.size _ _ _ _ _ rfl (uN pR.out hl1) rfl rfl (by simp [Value.oneCell']) (by omega) (by omega) (by decide) ?_;intro v' w2 hb2 hg2 hl2 wB;clear hg2 wB)
     go_roundw
     case rel=>exact ⟨acc++[(r:Int)],g,rest.extract n rest.size,rfl,by rw [Hz.out];omega,by rw [Hz.out,Z4];simp;omega,by rw [← zf.out,Hx.out];simp,by simpa using hb2,(hbl.trans (hl1.mono (by omega))).trans hl2⟩
     case measure=>simp [Hz.out];omega
def far (a b:ByteArray):Nat:=D.pre (pts a.size a) (pts b.size b) (pts a.size a).length (pts b.size b).length
theorem aie (a b:ByteArray)(w:World)(ha:a.size≤200)(hb:b.size≤200)(hT:Tabs w) :
  Calls Tryz.prog 63 #[.string a,.string b] w fun e w'=>e=.returned (.tuple #[.int .i64 (far a b),.int .i64 0])∧Below w.heap.size w w':=by
 have HT:=Z9 hT;clear hT;go_enter Tryz.func63,Tryz.ntmps63
 go_wp2_with fail
 refine (L8 a _ (by omega) HT.out).mono ?_;rintro e w1 ⟨va,rfl,hoa,hl1⟩;have hz1:=hl1.size;have mW:=Z9 hoa;clear hoa;go_wp2_with fail
 refine (L8 b _ (by omega) (Utf8Tabs_below HT.out hl1)).mono ?_;rintro e w2 ⟨vb,rfl,hob,hl2⟩;have hz2:=hl2.size;have nO:=Z9 hob;clear hob;go_wp2_with fail
 refine (Xm va vb (pts a.size a) (pts b.size b) _ ((Rd.zx mW.out).keep hl2) (Rd.zx nO.out) (by have:=wS a.size a (Z5 _);omega) (by have:=wS b.size b (Z5 _);omega)).mono ?_;rintro e w3 ⟨rfl,hl3⟩;go_wp2_with fail
 go_ret2
 exact ⟨rfl,(hl1.trans (hl2.mono (by omega))).trans (hl3.mono (by omega))⟩
end
section
open Go.RowKit
def GH (s:ByteArray):Bool:=Lib.validD s.data.toList && s.data.toList.all L.tq
def uq (s:ByteArray):Int:=if 200 < s.size then 2 else if GH s then 0 else 3
theorem akj (s:ByteArray)(w:World)(hs:s.size≤1000000000)(hT:Tabs w) :
  Calls Tryz.prog 296 #[.string s] w fun e w'=>e=.returned (.int .i64 (uq s))∧Below w.heap.size w w':=by
 have HT:=Z9 hT;clear hT;have Hv:Hid (∀ w,Tabs w→Calls Tryz.prog 330 #[.string s] w fun e w'=>e=.returned (.bool (Lib.validD s.data.toList))∧Below w.heap.size w w'):=fun w h=>Tryz.utf8_ValidString s w (by omega) h;obtain ⟨R,HR⟩:∃ R,Hid (uq s=R):=⟨_,Z9 rfl⟩;rw [HR.out];by_cases h1:200 < s.size
 ·go_enter Tryz.func296,Tryz.ntmps296
  go_wp2_with fail
  go_ret;exact ⟨aH (by rw [← HR.out];simp [uq,h1]),ZX _ _⟩
 ·by_cases h2:Lib.validD s.data.toList=true
  ·rw [h2] at Hv;by_cases h3:s.data.toList.all L.tq=true
   ·go_enter Tryz.func296,Tryz.ntmps296
    go_wp2_with fail
    refine (Hv.out _ HT.out).mono ?_;rintro e w1 ⟨rfl,bH⟩;have kH:=bH.size;go_wp2_with fail
    refine (Bd _ _ acB s _ hs (fun _ _=>by kernel_rfl)).mono ?_;rintro e _ ⟨rfl,rfl⟩;rw [h3];go_wp2_with fail
    go_ret;exact ⟨aH (by rw [← HR.out,uq,GH,if_neg h1,h2,h3];rfl),bH⟩
   ·have h3:s.data.toList.all L.tq=false:=by simpa using h3
    go_enter Tryz.func296,Tryz.ntmps296
    go_wp2_with fail
    refine (Hv.out _ HT.out).mono ?_;rintro e w1 ⟨rfl,bH⟩;have kH:=bH.size;go_wp2_with fail
    refine (Bd _ _ acB s _ hs (fun _ _=>by kernel_rfl)).mono ?_;rintro e _ ⟨rfl,rfl⟩;rw [h3];go_wp2_with fail
    go_ret;exact ⟨aH (by rw [← HR.out,uq,GH,if_neg h1,h2,h3];rfl),bH⟩
  ·have h2:Lib.validD s.data.toList=false:=by simpa using h2
   rw [h2] at Hv;go_enter Tryz.func296,Tryz.ntmps296
   go_wp2_with fail
   refine (Hv.out _ HT.out).mono ?_;rintro e w1 ⟨rfl,bH⟩;have kH:=bH.size;go_wp2_with fail
   go_ret;exact ⟨aH (by rw [← HR.out,uq,GH,if_neg h1,h2];rfl),bH⟩
def jH (k:Int)(t:ByteArray)(n:Int):Int :=
 if k=1 then (if n≠0 then 3 else uq t)
 else if k=2 then (if ¬ t.toList=[] then 3 else if -1000000000000≤n∧n≤1000000000000 then 0 else 1)
 else if k=3 then (if ¬ t.toList=[] then 3 else if 0≤n∧n≤1 then 0 else 1)
 else if k=4 then (if ¬ t.toList=[] then 3 else if 0≤n∧n≤4321439 then 0 else 1)
 else 4
theorem akk (k n:Int)(t:ByteArray)(w:World)(hs:t.size≤1000000000)(hT:Tabs w) :
  Calls Tryz.prog 232 #[.agg #[.int .i64 k,.string t,.int .i64 n]] w fun e w'=>e=.returned (.int .i64 (jH k t n))∧Below w.heap.size w w':=by
 have HT:=Z9 hT;clear hT;obtain ⟨R,HR⟩:∃ R,Hid (jH k t n=R):=⟨_,Z9 rfl⟩;rw [HR.out];have Hc:Hid (∀ w',Below w.heap.size w w'→Calls Tryz.prog 296 #[.string t] w' fun e w''=>e=.returned (.int .i64 (uq t))∧Below w'.heap.size w' w''):=fun w' h=>akj t w' hs (Utf8Tabs_below HT.out h);have Hb:Hid (Below w.heap.size w (w.alloc (.cells #[.int .i64 k,.string t,.int .i64 n] 174))):=(ZX _ _).alloc (Z5 _) _;go_enter Tryz.func232,Tryz.ntmps232
 go_wp2_with (first | (go_at_call 53;refine (nN _ _ _ _).mono ?_;rintro e _ ⟨rfl,rfl⟩) | (go_at_call 296;refine (Hc.out _ Hb.out).mono ?_;rintro e w1 ⟨rfl,bH⟩))
 all_goals
  go_ret;first
   | refine ⟨aH ?_,Hb.out⟩
   | refine ⟨aH ?_,Hb.out.trans (bH.mono (by simp))⟩
  rw [← HR.out];unfold jH;clear HR Hb Hc HT;simp_all
 all_goals omega
end
section
open Go.RowKit
def eY (a b:ByteArray):Int:=if Op.bytesLess a.toList b.toList then -1 else if (a.toList==b.toList) then 0 else 1
theorem akl (s:ByteArray)(w:World):Calls Tryz.prog 201 #[.string s] w fun e w'=>e=.returned (.bool false)∧w=w':=by
 go_enter Tryz.func201,Tryz.ntmps201
 go_wp2_with fail
 go_ret;exact ⟨by simp,rfl⟩
theorem JU (a b:ByteArray)(w:World):Calls Tryz.prog 122 #[.string a,.string b] w fun e w'=>e=.returned (.int .i64 (eY a b))∧w=w':=by
 obtain ⟨R,HR⟩:∃ R,Hid (eY a b=R):=⟨_,Z9 rfl⟩;rw [HR.out];go_enter Tryz.func122,Tryz.ntmps122
 go_wp2_with (first | (go_at_call 201;refine (akl _ _).mono ?_;rintro e _ ⟨rfl,rfl⟩))
 all_goals (go_ret;refine ⟨aH ?_,rfl⟩;rw [← HR.out];unfold eY;clear HR;simp_all)
theorem MX (blk:Nat)(x y:Int)(w:World)(hx:w.cell? ⟨blk,0,none⟩=some (.int .i64 x))(hy:w.cell? ⟨blk,1,none⟩=some (.int .i64 y)) :
  Calls Tryz.prog 196 #[.slice (some ⟨blk,0,none⟩) 2 2] w fun e w'=>e=.returned (.int .i64 (if x≠0 then x else y))∧w=w':=by
 obtain ⟨R,HR⟩:∃ R,Hid ((if x≠0 then x else y)=R):=⟨_,Z9 rfl⟩;rw [HR.out];go_enter Tryz.func196,Tryz.ntmps196
 go_wp2_with fail
 go_loopw [8] (fun i wr=>∃ k:Nat,k≤2∧i=.int .i64 k∧wr=w∧(k=1→x=0)∧(k=2→x=0∧y=0)) (fun i _=>2 - (intOf i).toNat)
 case atStart=>exact ⟨0,by omega,rfl,rfl,fun h=>by omega,fun h=>by omega⟩
 case round =>
  obtain ⟨k,hk,rfl,rfl,h1,h2⟩:=hrel;have H1:=Z9 h1;have H2:=Z9 h2;clear h1 h2;obtain rfl | rfl | rfl:k=0∨k=1∨k=2:=by omega
  ·by_cases h0:x=0
   ·have e0:(x != 0)=false:=by simpa using h0
    have H0:=Z9 h0;clear h0;go_wp2_with fail
    go_roundw
    case rel=>exact ⟨1,by omega,rfl,trivial,fun _=>H0.out,fun h=>by omega⟩
    case measure=>simp [intOf]
   ·have e0:(x != 0)=true:=by simpa using h0
    go_wp2_with fail
    go_ret;exact ⟨aH (by rw [← HR.out,if_pos h0]),rfl⟩
  ·have H0:Hid (x=0):=H1.out rfl;by_cases h0:y=0
   ·have e0:(y != 0)=false:=by simpa using h0
    have Hy0:=Z9 h0;clear h0;go_wp2_with fail
    go_roundw
    case rel=>exact ⟨2,by omega,rfl,trivial,fun h=>by omega,fun _=>⟨H0.out,Hy0.out⟩⟩
    case measure=>simp [intOf]
   ·have e0:(y != 0)=true:=by simpa using h0
    go_wp2_with fail
    go_ret;exact ⟨aH (by rw [← HR.out,if_neg (by simpa using H0.out)]),rfl⟩
  ·have H0:=H2.out rfl;go_wp2_with fail
   go_ret;exact ⟨aH (by rw [← HR.out,if_neg (by simpa using H0.1),H0.2]),rfl⟩
theorem Je (x y:Int)(w:World):Calls Tryz.prog 60 #[.int .i64 x,.int .i64 y] w fun e w'=>e=.returned (.int .i64 (ZL x y))∧w=w':=(Tryz.cmp_Compare_int x y w).mono fun _ _ ⟨h1,h2⟩=>⟨h1,h2.symm⟩
def eP (a b:ByteArray):Bool:=Op.bytesLess a.toList b.toList
theorem yP {a b c:ByteArray}(h1:eP a b=true)(h2:eP b c=true):eP a c=true:=by
 unfold eP at *;have e:∀ x y:List UInt8,Op.bytesLess x y=decide (x < y):=bytesLess_eq;rw [e] at h1 h2 ⊢;simp only [decide_eq_true_eq] at *;exact List.lt_trans h1 h2
theorem D7 (a b:ByteArray):eY a b < 0 ↔ eP a b=true:=by
 unfold eY eP;split
 ·rename_i h;simp [h]
 ·rename_i h;split <;> simp [h]
theorem zO (a:ByteArray):eP a a=false:=by
 unfold eP;have e:∀ x y:List UInt8,Op.bytesLess x y=decide (x < y):=bytesLess_eq;rw [e];simp
theorem Ah (a b:ByteArray):eY a b=0 ↔ a=b:=by
 constructor
 ·intro h;unfold eY at h;split at h
  ·cases h
  ·split at h
   ·rename_i h2;rw [ByteArray.toList_eq,ByteArray.toList_eq] at h2;exact WideShapes.bytes_inj (by simpa using h2)
   ·cases h
 ·rintro rfl;have:=zO a
  unfold eP at this;unfold eY;rw [this];simp
def jf (a b:ByteArray):Bool:=Op.bytesLess a.toList b.toList || (a.toList==b.toList)
theorem Ob:∀ x y:List UInt8,Op.bytesLess y x=false→(y==x)=false→Op.bytesLess x y=true
 | [],[],_,h=>by simp at h
 | [],_::_,_,_=>by simp [Op.bytesLess]
 | _::_,[],h,_=>by simp [Op.bytesLess] at h
 | a::x,b::y,h1,h2=>by
  simp only [Op.bytesLess,Bool.or_eq_false_iff,decide_eq_false_iff_not,Bool.and_eq_false_iff] at h1;simp only [Op.bytesLess,Ze,decide_eq_true_eq,ZQ,beq_iff_eq];by_cases hab:a < b
  ·exact .inl hab
  ·have e:a=b:=UInt8.le_antisymm (UInt8.not_lt.1 h1.1) (UInt8.not_lt.1 hab);subst e;refine .inr ⟨rfl,Ob x y ?_ ?_⟩
   ·rcases h1.2 with h | h
    ·simp at h
    ·exact h
   ·simpa using h2
theorem akm {a b:ByteArray}(h:jf b a=false):eP a b=true:=by
 unfold jf at h;simp only [Bool.or_eq_false_iff] at h;exact Ob _ _ h.1 h.2
theorem ai3 (a b:ByteArray):0 < eY a b ↔ eP b a=true:=by
 unfold eY eP;split
 ·rename_i h;constructor
  ·intro h2;simp at h2
  ·intro h2;have:=yP (a:=a) (b:=b) (c:=a) h h2
   rw [zO] at this;cases this
 ·rename_i h;split
  ·rename_i h2;have e:a=b:=by
    rw [ByteArray.toList_eq,ByteArray.toList_eq] at h2;exact WideShapes.bytes_inj (by simpa using h2)
   subst e;have:=zO a
   unfold eP at this;simp [this]
  ·rename_i h2;refine ⟨fun _=>Ob _ _ (by simpa using h) (by simpa using h2),fun _=>by decide⟩
end
section
open Go.RowKit
structure aQ where
 name:ByteArray
 kind:Int
 text:ByteArray
 num:Int
def aQ.cells (f:aQ):List Value:=[.string f.name,.int .i64 f.kind,.string f.text,.int .i64 f.num]
def bK:Rep aQ:=.flat 4 aQ.cells (fun _=>rfl)
def aQ.small (f:aQ):Prop:=f.name.size≤1000000000∧f.text.size≤1000000000
def kZ (prev:Option ByteArray):List aQ→Int
 | []=>0
 | f::r=>if L.isKey f.name=false then 5 else if ¬ jH f.kind f.text f.num=0 then jH f.kind f.text f.num else
  if prev.any (fun p=>jf f.name p) then 7 else kZ (some f.name) r
def nM (l:List aQ):Int:=if 30 < l.length then 2 else kZ none l
def wC (xs:List aQ)(k:Nat):Option ByteArray:=if k=0 then none else (xs[k - 1]?).map aQ.name
theorem Sl.wO {N:Nat→Prop}{w:World}{A:Option Addr}{xs:List aQ}(h:Sl bK N w A xs)(k:Nat)(f:aQ)(hk:xs[k]? =some f):∃ blk off,A=some ⟨blk,off,none⟩∧blk < w.heap.size ∧
  w.cell? ⟨blk,off + k * 4,none⟩=some (.string f.name)∧w.cell? ⟨blk,off + k * 4 + 1,none⟩=some (.int .i64 f.kind)∧w.cell? ⟨blk,off + k * 4 + 2,none⟩=some (.string f.text)∧w.cell? ⟨blk,off + k * 4 + 3,none⟩=some (.int .i64 f.num):=by
 obtain ⟨blk,off,l,e,h1,_,h3,h4⟩:=h k f hk;obtain rfl:l=aQ.cells f:=h3;exact ⟨blk,off,e,h1,h4 0 _ rfl,h4 1 _ rfl,h4 2 _ rfl,h4 3 _ rfl⟩
theorem afW (N:Nat→Prop)(A:Option Addr)(xs:List aQ)(c:Nat)(w:World)(hS:Sl bK N w A xs)(hsm:∀ f∈xs,f.small)(hn:xs.length≤1000000000)(hT:Tabs w) :
  Calls Tryz.prog 157 #[.slice A xs.length c] w fun e w'=>e=.returned (.int .i64 (nM xs))∧Below w.heap.size w w':=by
 have HT:=Z9 hT;have HS:=Z9 hS;have Hsm:=Z9 hsm;clear hT hS hsm;obtain ⟨R,HR⟩:∃ R,Hid (nM xs=R):=⟨_,Z9 rfl⟩;rw [HR.out];by_cases h30:30 < xs.length
 ·go_enter Tryz.func157,Tryz.ntmps157
  go_wp2_with fail
  go_ret;exact ⟨aH (by rw [← HR.out];simp [nM,h30]),ZX _ _⟩
 ·have HR2:Hid (kZ none xs=R):=by show _=_;rw [← HR.out,nM,if_neg h30]
  clear HR;go_enter Tryz.func157,Tryz.ntmps157
  go_wp2_with fail
  go_loopw [11] (fun i wr=>∃ k:Nat,k≤xs.length∧i=.int .i64 k∧kZ (wC xs k) (xs.drop k)=R∧Below w.heap.size w wr) (fun i _=>xs.length - (intOf i).toNat)
  case atStart=>exact ⟨0,ZN _,rfl,HR2.out,ZX _ _⟩
  case round =>
   clear HR2;obtain ⟨k,hk,rfl,hr,hbl⟩:=hrel;have Hr:=Z9 hr;clear hr;by_cases hlt:k < xs.length
   ·obtain ⟨f,hf⟩:∃ f,xs[k]? =some f:=⟨_,Z8 hlt⟩;obtain ⟨blk,off,rfl,hblk,c0,c1,c2,c3⟩:=HS.out.wO k f hf;have d0:=(hbl.cell (p:=⟨blk,off + k * 4,none⟩) hblk).trans c0;have d1:=(hbl.cell (p:=⟨blk,off + k * 4 + 1,none⟩) hblk).trans c1;have d2:=(hbl.cell (p:=⟨blk,off + k * 4 + 2,none⟩) hblk).trans c2;have d3:=(hbl.cell (p:=⟨blk,off + k * 4 + 3,none⟩) hblk).trans c3;have yg:f.name.size≤1000000000:=And.left (Hsm.out f (Z7 hf));have akn:f.text.size≤1000000000:=And.right (Hsm.out f (Z7 hf));have Hf:=Z9 hf;clear c0 c1 c2 c3 hf;have bP:Hid (kZ (wC xs k) (f::xs.drop (k + 1))=R):=by
     show _=_;rw [← Hr.out,Zz hlt];have:xs[k]=f:=by simpa [Z8 hlt] using Hf.out
     rw [this]
    clear Hr;have mY:Hid (∀ w',Below w.heap.size w w'→Calls Tryz.prog 232 #[.agg #[.int .i64 f.kind,.string f.text,.int .i64 f.num]] w' fun e w''=>e=.returned (.int .i64 (jH f.kind f.text f.num))∧Below w'.heap.size w' w''):=fun w' h=>akk _ _ _ w' akn (Utf8Tabs_below HT.out h);have Hb1:Hid (Below w.heap.size w (wr.alloc (.cells #[.string f.name,.int .i64 f.kind,.string f.text,.int .i64 f.num] 176))):=hbl.alloc hbl.size _;have hsz:=hbl.size;by_cases h1:L.isKey f.name=true
    ·go_wp2_with fail
     refine (E5 f.name _ yg).mono ?_;rintro e _ ⟨rfl,rfl⟩;rw [h1];by_cases h2:jH f.kind f.text f.num=0
     ·rw [h2] at mY;go_wp2_with fail
      refine (mY.out _ Hb1.out).mono ?_;rintro e w1 ⟨rfl,bH⟩;have kH:=bH.size;by_cases hk0:k=0
      ·have hk1:decide (0 < k)=false:=by simp;omega
       have OW:=Z9 hk0;clear hk0 d0 d1 d2 d3 mY;go_wp2_with fail
       go_quiet (fail)
       go_wp2_with fail
       go_roundw
       case rel=>exact ⟨k + 1,by omega,by go_num,by rw [← bP.out,OW.out,kZ,h1,h2];simp [wC];rw [← OW.out,Hf.out];rfl,Hb1.out.trans ((bH.mono (by simp;omega)).trans (below_drewN _ _ _))⟩
       case measure=>simp [intOf];omega
      ·obtain ⟨g,hg⟩:∃ g,xs[k - 1]? =some g:=⟨_,Z8 (by omega)⟩;obtain ⟨_,_,e,_,p0,_,_,_⟩:=HS.out.wO (k - 1) g hg;cases e;obtain ⟨j,rfl⟩:∃ j,k=j + 1:=⟨k - 1,by omega⟩;rw [Nat.add_sub_cancel] at hg p0;have Hg:=Z9 hg;have q0:w1.cell? ⟨blk,off + j * 4,none⟩=some (.string g.name):=((Hb1.out.trans (bH.mono (by simp;omega))).cell (p:=⟨blk,off + j * 4,none⟩) hblk).trans p0;have q1:w1.cell? ⟨wr.heap.size,0,none⟩=some (.string f.name):=by rw [bH.cell (p:=⟨wr.heap.size,0,none⟩) (by simp),World.cell?_alloc_at _ _ _ _ rfl];rfl
       clear hg p0 hk0 d0 d1 d2 d3;go_wp2_with fail
       have hk1:decide ((0:Int) < ((j + 1:Nat):Int))=true:=by simp
       have hk2:((j + 1:Nat):Int) - 1=(j:Int):=by omega
       clear mY;go_quiet (fail)
       go_wp2_with fail
       ·have hle:jf f.name g.name=true:=by
         have h:Op.bytesLess f.name.toList g.name.toList=true∨(f.name.toList==g.name.toList)=true:=by assumption
         unfold jf;rw [Ze];exact h
        go_ret;exact ⟨aH (by rw [← bP.out,kZ,h1,h2];simp [wC,Hg.out,hle]),Hb1.out.trans ((bH.mono (by simp;omega)).trans (below_drewN _ _ _))⟩
       ·have hle:Hid (jf f.name g.name=false):=by
         have h:Op.bytesLess f.name.toList g.name.toList=false∧(f.name.toList==g.name.toList)=false:=by assumption
         show jf _ _=_;unfold jf;rw [h.1,h.2];rfl
        go_roundw
        case rel=>exact ⟨j + 1 + 1,by omega,by go_num,by rw [← bP.out,kZ,h1,h2];simp [wC,Hg.out,Hf.out,hle.out],Hb1.out.trans ((bH.mono (by simp;omega)).trans (below_drewN _ _ _))⟩
        case measure=>simp [intOf];omega
     ·go_wp2_with fail
      refine (mY.out _ Hb1.out).mono ?_;rintro e w1 ⟨rfl,bH⟩;have kH:=bH.size;go_wp2_with fail
      go_ret;exact ⟨aH (by rw [← bP.out,kZ,h1];simp [h2]),Hb1.out.trans (bH.mono (by simp;omega))⟩
    ·have h1:L.isKey f.name=false:=by simpa using h1
     go_wp2_with fail
     refine (E5 f.name _ yg).mono ?_;rintro e _ ⟨rfl,rfl⟩;rw [h1];go_wp2_with fail
     go_ret;exact ⟨aH (by rw [← bP.out,kZ,h1];simp),Hb1.out⟩
   ·go_wp2_with fail
    go_ret;exact ⟨aH (by rw [← Hr.out,ZJ (by omega)];rfl),hbl⟩
end
section
open Go.RowKit
def jA (k1:Int)(t1:ByteArray)(k2:Int)(t2:ByteArray):Int:=if k1 < k2 then -1 else if k1=k2 then eY t1 t2 else 1
def Gn (X Y:Nat)(k1:Int)(t1:ByteArray)(k2:Int)(t2:ByteArray)(w:World):Prop:=LV w X #[.int .i64 k1,.string t1] 46∧LV w Y #[.int .i64 k2,.string t2] 46
theorem Rf (k1 k2:Int)(t1 t2:ByteArray)(w:World) :
  Calls Tryz.prog 116 #[.agg #[.int .i64 k1,.string t1],.agg #[.int .i64 k2,.string t2]] w fun e w'=>e=.returned (.int .i64 (jA k1 t1 k2 t2))∧Below w.heap.size w w':=by
 obtain ⟨R,HR⟩:∃ R,Hid (jA k1 t1 k2 t2=R):=⟨_,Z9 rfl⟩;rw [HR.out];have mF:=(LV.new w w.heap.size #[.int .i64 k1,.string t1] 46 rfl).alloc (.cells #[.int .i64 k2,.string t2] 46);have jU:=LV.new (w.alloc (.cells #[.int .i64 k1,.string t1] 46)) (w.heap.size + 1) #[.int .i64 k2,.string t2] 46 (by simp);have Hb:Hid (Below w.heap.size w ((w.alloc (.cells #[.int .i64 k1,.string t1] 46)).alloc (.cells #[.int .i64 k2,.string t2] 46))):=((ZX _ _).alloc (Z5 _) _).alloc (by simp) _;go_enter Tryz.func116,Tryz.ntmps116
 go_wp2_with fail
 refine dF (Gn w.heap.size (w.heap.size + 1) k1 t1 k2 t2) [(true,0),(true,1),(true,2),(true,3),(true,5),(true,6),(true,7),(true,8),(false,4),(false,9),(false,10),(false,11),(true,12)] (by kernel_rfl) (by kernel_rfl) (fun w' hd=>⟨mF.keep (SK.dU (b:=w.heap.size + 2) (hd.below _)) (by omega),jU.keep (SK.dU (b:=w.heap.size + 2) (hd.below _)) (by omega)⟩) (fun KK aF wd aW=>?_);have hC:Gn w.heap.size (w.heap.size + 1) k1 t1 k2 t2 wd:=⟨mF.keep (SK.dU (b:=w.heap.size + 2) (aW.below _)) (by omega),jU.keep (SK.dU (b:=w.heap.size + 2) (aW.below _)) (by omega)⟩;have gZ:Hid (Below w.heap.size w wd):=Hb.out.trans (aW.below _);clear mF jU Hb aW;refine aA ?_;refine iI (.int .i64 k1) rfl rfl rfl rfl (fun _=>rfl) (fun w' h=>h.1.cell 0 _ rfl) ?_;refine aA ?_;refine iI (.int .i64 k2) rfl rfl rfl rfl (fun _=>rfl) (fun w' h=>h.2.cell 0 _ rfl) ?_;refine aA ?_;refine iI (.string t1) rfl rfl rfl rfl (fun _=>rfl) (fun w' h=>h.1.cell 1 _ rfl) ?_;refine aA ?_;refine iI (.string t2) rfl rfl rfl rfl (fun _=>rfl) (fun w' h=>h.2.cell 1 _ rfl) ?_;refine aV rfl (fun K hK=>?_) hC;go_wp2_with fail
 refine (Je k1 k2 _).mono ?_;rintro e _ ⟨rfl,rfl⟩;go_wp2_with fail
 refine ⟨hC,?_⟩;refine aV rfl (fun K hK=>?_) hC;go_wp2_with fail
 refine (JU t1 t2 _).mono ?_;rintro e _ ⟨rfl,rfl⟩;go_wp2_with fail
 refine ⟨hC,?_⟩;refine aV rfl (fun K hK=>?_) hC;go_wp2_with fail
 have hC2:Gn w.heap.size (w.heap.size + 1) k1 t1 k2 t2 (wd.alloc (.cells #[.int .i64 (ZL k1 k2),.int .i64 (eY t1 t2)] 3)):=⟨hC.1.alloc _,hC.2.alloc _⟩;refine ⟨hC2,?_⟩;refine aV rfl (fun K hK=>?_) hC2;have c0:(wd.alloc (.cells #[.int .i64 (ZL k1 k2),.int .i64 (eY t1 t2)] 3)).cell? ⟨wd.heap.size,0,none⟩=some (.int .i64 (ZL k1 k2)):=by rw [World.cell?_alloc_at _ _ _ _ rfl];rfl
 have c1:(wd.alloc (.cells #[.int .i64 (ZL k1 k2),.int .i64 (eY t1 t2)] 3)).cell? ⟨wd.heap.size,1,none⟩=some (.int .i64 (eY t1 t2)):=by rw [World.cell?_alloc_at _ _ _ _ rfl];rfl
 have KG:=Z9 (MX wd.heap.size _ _ _ c0 c1);clear c0 c1;have HR2:Hid ((if ZL k1 k2≠0 then ZL k1 k2 else eY t1 t2)=R):=by
  show _=_;rw [← HR.out,jA,ZL];by_cases h1:k1 < k2
  ·simp [h1]
  ·by_cases h2:k1=k2
   ·simp [h2]
   ·have h3:k2 < k1:=by omega
    simp [h1,h2,h3]
 rw [HR2.out] at KG;clear HR HR2;go_wp2_with fail
 refine (KG.out).mono ?_;rintro e _ ⟨rfl,rfl⟩;go_wp2_with fail
 refine ⟨hC2,?_⟩;refine aA ?_;refine dG ?_;simp only [Exit.then];refine aF _ _ ?_;go_wp2_with fail
 go_ret;exact ⟨rfl,gZ.out.alloc gZ.out.size _⟩
theorem af0 (k1 k2:Int)(t1 t2:ByteArray)(w:World) :
  Calls Tryz.prog 78 #[.agg #[.int .i64 k1,.string t1],.agg #[.int .i64 k2,.string t2]] w fun e w'=>e=.returned (.int .i64 (jA k1 t1 k2 t2))∧Below w.heap.size w w':=by
 by_cases hk:k1=k2
 ·subst hk;obtain ⟨R,HR⟩:∃ R,Hid (jA k1 t1 k1 t2=R):=⟨_,Z9 rfl⟩;rw [HR.out];have Hb:Hid (Below w.heap.size w ((w.alloc (.cells #[.int .i64 k1,.string t1] 46)).alloc (.cells #[.int .i64 k1,.string t2] 46))):=((ZX _ _).alloc (Z5 _) _).alloc (by simp) _;go_enter Tryz.func78,Tryz.ntmps78
  go_wp2_with fail
  all_goals (go_ret;refine ⟨aH ?_,Hb.out⟩;rw [← HR.out];unfold jA eY;clear HR Hb;simp_all)
 ·have hk':(k1==k2)=false:=by simpa using hk
  obtain ⟨R,HR⟩:∃ R,Hid (jA k1 t1 k2 t2=R):=⟨_,Z9 rfl⟩;rw [HR.out];have Hb:Hid (Below w.heap.size w ((w.alloc (.cells #[.int .i64 k1,.string t1] 46)).alloc (.cells #[.int .i64 k2,.string t2] 46))):=((ZX _ _).alloc (Z5 _) _).alloc (by simp) _;go_enter Tryz.func78,Tryz.ntmps78
  go_wp2_with fail
  all_goals
   go_ret;refine ⟨aH ?_,Hb.out⟩;rw [← HR.out];unfold jA;first
    | (rw [if_pos (by assumption)];done)
    | (rw [if_neg (by omega),if_neg hk];done)
end
section
open Go.RowKit
theorem acC (f:aQ)(nm:ByteArray)(w:World) :
  Calls Tryz.prog 203 #[.agg #[.string f.name,.int .i64 f.kind,.string f.text,.int .i64 f.num],.string nm] w fun e w'=>e=.returned (.int .i64 (eY f.name nm))∧Below w.heap.size w w':=by
 have Hb:Hid (Below w.heap.size w (w.alloc (.cells #[.string f.name,.int .i64 f.kind,.string f.text,.int .i64 f.num] 176))):=(ZX _ _).alloc (Z5 _) _;go_enter Tryz.func203,Tryz.ntmps203
 go_wp2_with fail
 refine (JU f.name nm _).mono ?_;rintro e _ ⟨rfl,rfl⟩;go_wp2_with fail
 go_ret;exact ⟨rfl,Hb.out⟩
def pJ (xs:List aQ):Prop:=∀ (i j:Nat) (f g:aQ),i < j→xs[i]? =some f→xs[j]? =some g→eP f.name g.name=true
def ako (xs:List aQ)(nm:ByteArray)(w:World)(e:Ending)(w':World):Prop :=
 ∃ (i:Nat) (b:Bool),e=.returned (.tuple #[.int .i64 i,.bool b])∧i≤xs.length∧(∀ p f,p < i→xs[p]? =some f→eP f.name nm=true)∧(∀ p f,i≤p→xs[p]? =some f→eP f.name nm=false) ∧
  (b=true ↔ ∃ f,xs[i]? =some f∧eY f.name nm=0)∧Below w.heap.size w w'
theorem akp (N:Nat→Prop)(A:Option Addr)(xs:List aQ)(nm:ByteArray)(c:Nat)(w:World)(hS:Sl bK N w A xs)(hn:xs.length≤1000)(kD:pJ xs) :
  Calls Tryz.prog 202 #[.slice A xs.length c,.string nm,.func (.func 203) #[] #[]] w (ako xs nm w):=by
 have HS:=Z9 hS;have jE:=Z9 kD;clear hS kD;go_enter Tryz.func202,Tryz.ntmps202
 go_wp2_with fail
 go_loopw [9,10] (fun a b wr=>∃ i j:Nat,i≤j∧j≤xs.length∧a=.int .i64 i∧b=.int .i64 j∧(∀ p f,p < i→xs[p]? =some f→eP f.name nm=true)∧(∀ p f,j≤p→xs[p]? =some f→eP f.name nm=false)∧Below w.heap.size w wr) (fun a b _=>(intOf b - intOf a).toNat)
 case atStart=>exact ⟨0,xs.length,by omega,by omega,rfl,rfl,(fun p f h=>by omega),(fun p f h hp=>by rw [ZG h] at hp;cases hp),ZX _ _⟩
 case round =>
  obtain ⟨i,j,hij,hj,rfl,rfl,hlo,hhi,hbl⟩:=hrel;have jI:=Z9 hlo;have jJ:=Z9 hhi;have hsz:=hbl.size;clear hlo hhi;by_cases hlt:i < j
  ·obtain ⟨h,hh⟩:∃ h:Nat,h=(i + j) / 2:=⟨_,rfl⟩;have h1:i≤h:=by omega
   have h2:h < j:=by omega
   have eh:((i:Int) + (j:Int)) / 2=(h:Int):=by omega
   clear hh;obtain ⟨f,hf⟩:∃ f,xs[h]? =some f:=⟨_,Z8 (by omega)⟩;obtain ⟨blk,off,rfl,hblk,c0,c1,c2,c3⟩:=HS.out.wO h f hf;have d0:=(hbl.cell (p:=⟨blk,off + h * 4,none⟩) hblk).trans c0;have d1:=(hbl.cell (p:=⟨blk,off + h * 4 + 1,none⟩) hblk).trans c1;have d2:=(hbl.cell (p:=⟨blk,off + h * 4 + 2,none⟩) hblk).trans c2;have d3:=(hbl.cell (p:=⟨blk,off + h * 4 + 3,none⟩) hblk).trans c3;have Hf:=Z9 hf;clear c0 c1 c2 c3 hf;go_wp2_with fail
   refine (acC f nm _).mono ?_;rintro e w1 ⟨rfl,bH⟩;have kH:=bH.size;have Hb1:Hid (Below w.heap.size w w1):=hbl.trans (bH.mono hsz);have qL:=Z9 (D7 f.name nm);generalize eY f.name nm=cm at *;clear bH kH d0 d1 d2 d3;by_cases hc:cm < 0
   ·have Hl:Hid (∀ p g,p < h + 1→xs[p]? =some g→eP g.name nm=true):=fun p g hp hg=>by
     by_cases vK:p=h
     ·subst vK;rw [Hf.out] at hg;cases hg;exact qL.out.1 hc
     ·exact yP (jE.out p h g f (by omega) hg Hf.out) (qL.out.1 hc)
    go_wp2_with fail
    go_roundw
    case rel=>exact ⟨h + 1,j,by omega,by omega,by go_num,rfl,Hl.out,jJ.out,Hb1.out⟩
    case measure=>simp [intOf];omega
   ·have hnl:eP f.name nm=false:=by
     cases hx:eP f.name nm
     ·rfl
     ·exact absurd (qL.out.2 hx) hc
    have Hl:Hid (∀ p g,h≤p→xs[p]? =some g→eP g.name nm=false):=fun p g hp hg=>by
     by_cases vK:p=h
     ·subst vK;rw [Hf.out] at hg;cases hg;exact hnl
     ·cases hx:eP g.name nm
      ·rfl
      ·rw [yP (jE.out h p f g (by omega) Hf.out hg) hx] at hnl;cases hnl
    clear hnl;go_wp2_with fail
    go_roundw
    case rel=>exact ⟨i,h,by omega,by omega,rfl,rfl,jI.out,Hl.out,Hb1.out⟩
    case measure=>simp [intOf];omega
  ·obtain rfl:i=j:=by omega
   by_cases hlen:i < xs.length
   ·obtain ⟨f,hf⟩:∃ f,xs[i]? =some f:=⟨_,Z8 hlen⟩;obtain ⟨blk,off,rfl,hblk,c0,c1,c2,c3⟩:=HS.out.wO i f hf;have d0:=(hbl.cell (p:=⟨blk,off + i * 4,none⟩) hblk).trans c0;have d1:=(hbl.cell (p:=⟨blk,off + i * 4 + 1,none⟩) hblk).trans c1;have d2:=(hbl.cell (p:=⟨blk,off + i * 4 + 2,none⟩) hblk).trans c2;have d3:=(hbl.cell (p:=⟨blk,off + i * 4 + 3,none⟩) hblk).trans c3;have Hf:=Z9 hf;clear c0 c1 c2 c3 hf;go_wp2_with fail
    refine (acC f nm _).mono ?_;rintro e w1 ⟨rfl,bH⟩;have kH:=bH.size;have Hb1:Hid (Below w.heap.size w w1):=hbl.trans (bH.mono hsz);obtain ⟨cm,fO⟩:∃ cm,Hid (eY f.name nm=cm):=⟨_,Z9 rfl⟩;rw [fO.out];clear bH kH d0 d1 d2 d3;go_wp2_with fail
    go_ret2
    exact ⟨i,(cm==0),rfl,by omega,jI.out,jJ.out,by rw [beq_iff_eq];exact ⟨fun h=>⟨f,Hf.out,by rw [fO.out,h]⟩,fun ⟨g,hg,hz⟩=>by rw [Hf.out] at hg;cases hg;rw [← fO.out];exact hz⟩,Hb1.out⟩
   ·go_wp2_with fail
    go_ret2
    exact ⟨i,false,rfl,by omega,jI.out,jJ.out,⟨(fun h=>by cases h),(fun ⟨g,hg,_⟩=>by rw [ZG (by omega)] at hg;cases hg)⟩,hbl⟩
def IK (xs:List aQ)(nm:ByteArray)(o:Option aQ):Prop:=(∀ f,o=some f→f∈xs∧f.name=nm)∧(o=none→∀ f∈xs,f.name≠nm)
def valOf (o:Option aQ):Value:=match o with | some f=>.agg #[.int .i64 f.kind,.string f.text,.int .i64 f.num] | none=>.agg #[.int .i64 0,.string ⟨#[]⟩,.int .i64 0]
def akq (xs:List aQ)(nm:ByteArray)(w:World)(e:Ending)(w':World):Prop:=∃ o,IK xs nm o∧e=.returned (.tuple #[valOf o,.bool o.isSome])∧Below w.heap.size w w'
theorem Xr (N:Nat→Prop)(A:Option Addr)(xs:List aQ)(nm:ByteArray)(c:Nat)(w:World)(hS:Sl bK N w A xs)(hn:xs.length≤1000)(kD:pJ xs) :
  Calls Tryz.prog 123 #[.slice A xs.length c,.string nm] w (akq xs nm w):=by
 have HS:=Z9 hS;have jE:=Z9 kD;have Hb:Hid (Below w.heap.size w (w.alloc (.cells #[.int .i64 0,.string ⟨#[]⟩,.int .i64 0] 174))):=(ZX _ _).alloc (Z5 _) _;have um:=LV.new w w.heap.size #[.int .i64 0,.string ⟨#[]⟩,.int .i64 0] 174 rfl;have UO:=Z9 (HS.out.aK Hb.out);clear hS kD HS;go_enter Tryz.func123,Tryz.ntmps123
 go_wp2_with fail
 refine (akp N A xs nm c _ UO.out hn jE.out).mono ?_;rintro e w1 ⟨i,b,rfl,hi,hlo,hhi,hb,hl1⟩;have jI:=Z9 hlo;have jJ:=Z9 hhi;have HbI:=Z9 hb;have I5:=Z9 (UO.out.aK hl1);have Hb1:=Z9 (Hb.out.trans (hl1.mono (by simp)));have mF:LV w1 w.heap.size #[.int .i64 0,.string ⟨#[]⟩,.int .i64 0] 174:=(hl1.block _ um.lt).trans um;clear hlo hhi hb hl1 UO Hb um;cases b
 ·have Hf:Hid (IK xs nm none):=by
   refine ⟨(fun f h=>by cases h),fun _ f hf hnm=>?_⟩;obtain ⟨p,hp,e⟩:=Zn hf;have hpf:xs[p]? =some f:=by rw [Z8 hp,e]
   rcases Nat.lt_trichotomy p i with h | h | h
   ·have:=jI.out p f h hpf
    rw [hnm,zO] at this;cases this
   ·subst h;have:=HbI.out.2 ⟨f,hpf,(Ah _ _).2 hnm⟩
    cases this
   ·have hg:xs[i]? =some (xs[i]'(by omega)):=Z8 (by omega);have h1:=jE.out i p _ f h hg hpf;have h2:=jJ.out i _ (Z5 _) hg;rw [hnm,h2] at h1;cases h1
  have JW:Hid (Below w.heap.size w (((w1.setCell ⟨w.heap.size,0,none⟩ (.int .i64 0)).setCell ⟨w.heap.size,1,none⟩ (.string ⟨#[]⟩)).setCell ⟨w.heap.size,2,none⟩ (.int .i64 0))):=((Hb1.out.setCell (p:=⟨w.heap.size,0,none⟩) (Z5 _) _).setCell (p:=⟨w.heap.size,1,none⟩) (Z5 _) _).setCell (p:=⟨w.heap.size,2,none⟩) (Z5 _) _;have UQ:=mF.cell 0 _ rfl;have UR:=mF.cell 1 _ rfl;have UU:=mF.cell 2 _ rfl;have akr:=mF.free 0;have aks:=mF.free 1;have akt:=mF.free 2;go_wp2_with fail
  exact bodyPost_ret (v:=.tuple #[.agg #[.int .i64 0,.string ⟨#[]⟩,.int .i64 0],.bool false]) (by simp [results,Tryz.results123,go_sem,UQ,UR,UU]) rfl ⟨none,Hf.out,rfl,JW.out⟩
 ·obtain ⟨f,hf,hz⟩:=HbI.out.1 rfl;have hlt:i < xs.length:=(List.getElem?_eq_some_iff.1 hf).1;have Hf:Hid (IK xs nm (some f)):=⟨(fun g h=>by cases h;exact ⟨Z7 hf,(Ah _ _).1 hz⟩),(fun h=>by cases h)⟩;obtain ⟨blk,off,rfl,hblk,c0,c1,c2,c3⟩:=I5.out.wO i f hf;have JW:Hid (Below w.heap.size w (((w1.setCell ⟨w.heap.size,0,none⟩ (.int .i64 f.kind)).setCell ⟨w.heap.size,1,none⟩ (.string f.text)).setCell ⟨w.heap.size,2,none⟩ (.int .i64 f.num))):=((Hb1.out.setCell (p:=⟨w.heap.size,0,none⟩) (Z5 _) _).setCell (p:=⟨w.heap.size,1,none⟩) (Z5 _) _).setCell (p:=⟨w.heap.size,2,none⟩) (Z5 _) _;have UQ:=mF.cell 0 _ rfl;have UR:=mF.cell 1 _ rfl;have UU:=mF.cell 2 _ rfl;have akr:=mF.free 0;have aks:=mF.free 1;have akt:=mF.free 2;clear hf hz c0 jI jJ;go_wp2_with fail
  exact bodyPost_ret (v:=.tuple #[.agg #[.int .i64 f.kind,.string f.text,.int .i64 f.num],.bool true]) (by simp [results,Tryz.results123,go_sem,UQ,UR,UU]) rfl ⟨some f,Hf.out,rfl,JW.out⟩
end
section
open Go.RowKit
theorem WZ {k n:Int}{t:ByteArray}(h:jH k t n=0):t.size≤200:=by
 have hnil:t.toList=[]→t.size≤200:=fun e=>by
  rw [toList_nil_iff_emptyBytes] at e;rw [e];simp
 unfold jH at h;repeat' split at h
 all_goals first
  | (cases h;done)
  | (refine hnil ?_;simp_all;done)
  | (unfold uq at h
     by_cases c:200 < t.size
     ·rw [if_pos c] at h;cases h
     ·omega)
theorem acD:∀ (l:List aQ) (p:Option ByteArray),kZ p l=0→(∀ f∈l,f.text.size≤200)∧(∀ q,p=some q→∀ f∈l,eP q f.name=true)∧pJ l
 | [],_,_=>⟨(fun _ h=>by cases h),(fun _ _ _ h=>by cases h),(fun _ _ _ _ _ h=>by simp at h)⟩
 | x::r,p,h=>by
  rw [kZ] at h;split at h
  ·cases h
  split at h
  ·rename_i h2;exact absurd h h2
  rename_i h2;split at h
  ·cases h
  rename_i h3;have h2:=Classical.not_not.1 h2;obtain ⟨i1,i2,i3⟩:=acD r _ h;have hp:∀ q,p=some q→eP q x.name=true:=fun q hq=>by
   subst hq;exact akm (by simpa using h3)
  refine ⟨fun f hf=>?_,fun q hq f hf=>?_,fun i j f g hij hf hg=>?_⟩
  ·rcases List.mem_cons.1 hf with rfl | hf
   ·exact WZ h2
   ·exact i1 f hf
  ·rcases List.mem_cons.1 hf with rfl | hf
   ·exact hp q hq
   ·exact yP (hp q hq) (i2 _ rfl f hf)
  ·cases j with
   | zero=>omega
   | succ j =>
    have hg:r[j]? =some g:=by simpa using hg
    cases i with
    | zero =>
     obtain rfl:x=f:=by simpa using hf
     exact i2 _ rfl g (Z7 hg)
    | succ i=>exact i3 i j f g (by omega) (by simpa using hf) hg
theorem aeh {l:List aQ}(h:nM l=0):l.length≤30∧(∀ f∈l,f.text.size≤200)∧pJ l:=by
 unfold nM at h;split at h
 ·cases h
 obtain ⟨h1,_,h3⟩:=acD l _ h;exact ⟨by omega,h1,h3⟩
end
end Go.Proofs.YtmkkppknaikjjaaGreatDoor
namespace Go.Proofs.YtmkkppknaikjjaaGreatDoor.D
def acE (f:List Int→Nat)(x:Int)(n:Nat):List Int→Nat
 | []=>n
 | y::b=>if x=y then f b else 1 + min (min (f b) (f (y::b))) (acE f x n b)
def dL:List Int→List Int→Nat
 | []=>fun b=>b.length
 | x::a=>acE (dL a) x (a.length + 1)
theorem OX (b:List Int):dL [] b=b.length:=rfl
theorem KY (a:List Int):dL a []=a.length:=by cases a <;> rfl
theorem EG (x y:Int)(a b:List Int):dL (x::a) (y::b)=if x=y then dL a b else 1 + min (min (dL a b) (dL a (y::b))) (dL (x::a) b):=rfl
abbrev Al:=List (Option Int×Option Int)
def one (p:Option Int×Option Int):Nat:=match p with | (some x,some y)=>if x=y then 0 else 1 | _=>1
def cost (t:Al):Nat:=(t.map one).sum
def iF (t:Al):List Int:=t.filterMap (·.1)
def jD (t:Al):List Int:=t.filterMap (·.2)
theorem acF:∀ a:List Int,∃ t:Al,iF t=a∧jD t=[]∧cost t=a.length
 | []=>⟨[],rfl,rfl,rfl⟩
 | x::a=>by
  obtain ⟨t,h1,h2,h3⟩:=acF a;exact ⟨(some x,none)::t,by simp [iF] at *;exact h1,by simp [jD] at *;exact h2,by simp [cost,one] at *;omega⟩
theorem acG:∀ b:List Int,∃ t:Al,iF t=[]∧jD t=b∧cost t=b.length
 | []=>⟨[],rfl,rfl,rfl⟩
 | x::a=>by
  obtain ⟨t,h1,h2,h3⟩:=acG a;exact ⟨(none,some x)::t,by simp [iF] at *;exact h1,by simp [jD] at *;exact h2,by simp [cost,one] at *;omega⟩
theorem lH (p:Option Int×Option Int)(t:Al):iF (p::t)=match p.1 with | some x=>x::iF t | none=>iF t:=by
 obtain ⟨p1,p2⟩:=p;cases p1 <;> simp [iF]
theorem lI (p:Option Int×Option Int)(t:Al):jD (p::t)=match p.2 with | some x=>x::jD t | none=>jD t:=by
 obtain ⟨p1,p2⟩:=p;cases p2 <;> simp [jD]
theorem oP (p:Option Int×Option Int)(t:Al):cost (p::t)=one p + cost t:=by simp [cost]
theorem ex:∀ (a b:List Int),∃ t:Al,iF t=a∧jD t=b∧cost t=dL a b
 | [],b=>by obtain ⟨t,h1,h2,h3⟩:=acG b;exact ⟨t,h1,h2,h3⟩
 | x::a,[]=>by obtain ⟨t,h1,h2,h3⟩:=acF (x::a);exact ⟨t,h1,h2,by rw [h3,KY]⟩
 | x::a,y::b=>by
  obtain ⟨t1,l1,r1,c1⟩:=ex a b;obtain ⟨t2,l2,r2,c2⟩:=ex a (y::b);obtain ⟨t3,l3,r3,c3⟩:=ex (x::a) b;rw [EG];by_cases h:x=y
  ·exact ⟨(some x,some y)::t1,by rw [lH,l1],by rw [lI,r1],by rw [oP,c1,if_pos h];simp [one,h]⟩
  ·rw [if_neg h];rcases Nat.le_total (dL a b) (dL a (y::b)) with h1 | h1
   ·rcases Nat.le_total (dL a b) (dL (x::a) b) with h2 | h2
    ·exact ⟨(some x,some y)::t1,by rw [lH,l1],by rw [lI,r1],by rw [oP,c1];simp only [one,if_neg h];omega⟩
    ·exact ⟨(none,some y)::t3,by rw [lH,l3],by rw [lI,r3],by rw [oP,c3];simp only [one];omega⟩
   ·rcases Nat.le_total (dL a (y::b)) (dL (x::a) b) with h2 | h2
    ·exact ⟨(some x,none)::t2,by rw [lH,l2],by rw [lI,r2],by rw [oP,c2];simp only [one];omega⟩
    ·exact ⟨(none,some y)::t3,by rw [lH,l3],by rw [lI,r3],by rw [oP,c3];simp only [one];omega⟩
theorem one_le (p:Option Int×Option Int):one p≤1:=by
 obtain ⟨p1,p2⟩:=p;cases p1 <;> cases p2 <;> simp [one]
 split <;> omega
theorem UW:∀ (t:Al) (x:Int) (a:List Int),iF t=x::a→∃ t':Al,iF t'=a∧jD t'=jD t∧cost t'≤cost t + 1
 | [],_,_,h=>by simp [iF] at h
 | (some z,q)::t,x,a,h=>by
  rw [lH] at h;have h2:iF t=a:=(List.cons.inj h).2;refine ⟨(none,q)::t,by rw [lH];exact h2,by rw [lI,lI],?_⟩;have:=one_le (none,q)
  rw [oP,oP];omega
 | (none,q)::t,x,a,h=>by
  rw [lH] at h;obtain ⟨t',h1,h2,h3⟩:=UW t x a h;exact ⟨(none,q)::t',by rw [lH];exact h1,by rw [lI,lI,h2],by rw [oP,oP];omega⟩
theorem UY:∀ (t:Al) (y:Int) (b:List Int),jD t=y::b→∃ t':Al,jD t'=b∧iF t'=iF t∧cost t'≤cost t + 1
 | [],_,_,h=>by simp [jD] at h
 | (q,some z)::t,x,a,h=>by
  rw [lI] at h;have h2:jD t=a:=(List.cons.inj h).2;refine ⟨(q,none)::t,by rw [lI];exact h2,by rw [lH,lH],?_⟩;have:=one_le (q,none)
  rw [oP,oP];omega
 | (q,none)::t,x,a,h=>by
  rw [lI] at h;obtain ⟨t',h1,h2,h3⟩:=UY t x a h;exact ⟨(q,none)::t',by rw [lI];exact h1,by rw [lH,lH,h2],by rw [oP,oP];omega⟩
theorem low:∀ (n:Nat) (t:Al),(iF t).length + (jD t).length≤n→dL (iF t) (jD t)≤cost t:=by
 intro n;induction n with
 | zero =>
  intro t h;have e1:iF t=[]:=List.length_eq_zero_iff.1 (by omega);have e2:jD t=[]:=List.length_eq_zero_iff.1 (by omega);rw [e1,e2];exact ZN _
 | succ n ih =>
  intro t;induction t with
  | nil=>intro _;exact Z5 _
  | cons p t iht =>
   intro h;match p,h with
   | (none,none),h =>
    have h':(iF t).length + (jD t).length≤n + 1:=by simpa [lH,lI] using h
    have:=iht h'
    rw [lH,lI,oP];simp only [one];omega
   | (some x,some y),h =>
    have h':(iF t).length + (jD t).length≤n:=by simp [lH,lI] at h;omega
    have:=ih t h'
    rw [lH,lI,oP];simp only [EG,one];by_cases hxy:x=y
    ·rw [if_pos hxy,if_pos hxy];omega
    ·rw [if_neg hxy,if_neg hxy];omega
   | (some x,none),h =>
    have h':(iF t).length + (jD t).length≤n:=by simp [lH,lI] at h;omega
    have h0:=ih t h';rw [lH,lI,oP];simp only [one];cases hb:jD t with
    | nil=>rw [hb,KY] at h0;rw [KY];simp;omega
    | cons y b =>
     rw [EG];rw [hb] at h0 h';by_cases hxy:x=y
     ·rw [if_pos hxy];obtain ⟨t1,e1,e2,e3⟩:=ex (iF t) (y::b);obtain ⟨t2,f1,f2,f3⟩:=UY t1 y b e2;have:=ih t2 (by rw [f1,f2,e1];simp at h';omega)
      rw [f1,f2,e1] at this;omega
     ·rw [if_neg hxy];omega
   | (none,some y),h =>
    have h':(iF t).length + (jD t).length≤n:=by simp [lH,lI] at h;omega
    have h0:=ih t h';rw [lH,lI,oP];simp only [one];cases ha:iF t with
    | nil=>rw [ha,OX] at h0;rw [OX];simp;omega
    | cons x a =>
     rw [EG];rw [ha] at h0 h';by_cases hxy:x=y
     ·rw [if_pos hxy];obtain ⟨t1,e1,e2,e3⟩:=ex (x::a) (jD t);obtain ⟨t2,f1,f2,f3⟩:=UW t1 x a e1;have:=ih t2 (by rw [f1,f2,e2];simp at h';omega)
      rw [f1,f2,e2] at this;omega
     ·rw [if_neg hxy];omega
theorem UZ (t:Al)(a b:List Int)(h1:iF t=a)(h2:jD t=b):dL a b≤cost t:=by subst h1 h2;exact low _ t (Z5 _)
theorem aku (x y:Int)(a b:List Int):dL (x::a) (y::b)=min (min (dL a b + (if x=y then 0 else 1)) (dL (x::a) b + 1)) (dL a (y::b) + 1):=by
 by_cases h:x=y
 ·rw [EG,if_pos h,if_pos h];obtain ⟨t1,e1,e2,e3⟩:=ex a (y::b);obtain ⟨t2,f1,f2,f3⟩:=UY t1 y b e2;have k1:=UZ t2 a b (by rw [f2,e1]) f1;obtain ⟨t3,e4,e5,e6⟩:=ex (x::a) b;obtain ⟨t4,f4,f5,f6⟩:=UW t3 x a e4;have k2:=UZ t4 a b f4 (by rw [f5,e5]);omega
 ·rw [EG,if_neg h,if_neg h];omega
theorem akv (a b:List Int):dL a.reverse b.reverse=dL a b:=by
 have key:∀ a b:List Int,dL a.reverse b.reverse≤dL a b:=by
  intro a b;obtain ⟨t,h1,h2,h3⟩:=ex a b;have:=UZ t.reverse a.reverse b.reverse (by simp only [iF,List.filterMap_reverse];rw [← h1];rfl) (by simp only [jD,List.filterMap_reverse];rw [← h2];rfl)
  have e:cost t.reverse=cost t:=by simp [cost,List.sum_reverse]
  omega
 have h1:=key a b;have h2:=key a.reverse b.reverse;rw [List.reverse_reverse,List.reverse_reverse] at h2;omega
theorem OY (a b:List Int):∀ i j,i≤a.length→j≤b.length→pre a b i j=dL (a.take i).reverse (b.take j).reverse
 | 0,j,_,hj=>by rw [aj1,List.take_zero,List.reverse_nil,OX];simp;omega
 | i + 1,0,hi,_=>by rw [OV,List.take_zero,List.reverse_nil,KY];simp;omega
 | i + 1,j + 1,hi,hj=>by
  have h1:=OY a b i j (by omega) (by omega);have h2:=OY a b (i + 1) j (by omega) (by omega);have h3:=OY a b i (j + 1) (by omega) (by omega);have ea:(a.take (i + 1)).reverse=a[i]::(a.take i).reverse:=by rw [List.take_succ_eq_append_getElem (by omega)];simp
  have eb:(b.take (j + 1)).reverse=b[j]::(b.take j).reverse:=by rw [List.take_succ_eq_append_getElem (by omega)];simp
  rw [acn,h1,h2,h3,ea,eb,aku];have e:(a[i]? =b[j]?)=(a[i]=b[j]):=by rw [Z8 (by omega),Z8 (by omega)];simp
  simp only [e]
theorem pre_eq (a b:List Int):pre a b a.length b.length=dL a b:=by
 rw [OY a b _ _ (Z5 _) (Z5 _),Zp,Zp,akv]
end Go.Proofs.YtmkkppknaikjjaaGreatDoor.D
namespace Go.Proofs.YtmkkppknaikjjaaGreatDoor
section
open Go.RowKit
def Fa (l:List Int)(w:World)(e:Ending)(w':World):Prop:=∃ v,e=.returned v∧w'.ownsRow w.heap.size 3 1 v l.length (l.map (Value.int .i64))∧Below w.heap.size w w'
theorem ES (s:ByteArray)(w:World)(hs:s.size≤1000000)(hT:Tabs w) :
  Calls Tryz.prog 213 #[.string s] w (Fa (pts s.size s) w):=by
 have HT:=Z9 hT;clear hT;go_enter Tryz.func213,Tryz.ntmps213
 go_wp2_with fail
 go_loopw [0,3] (fun r v wr=>∃ (acc:List Int) (f:Nat) (rest:ByteArray),r=.string rest∧rest.size≤f∧acc.length + rest.size≤s.size∧acc++pts f rest=pts s.size s∧wr.ownsRow w.heap.size 3 1 v acc.length (acc.map (Value.int .i64))∧Below w.heap.size w wr) (fun r _ _=>match r with | .string t=>t.size | _=>0)
 case atStart=>exact ⟨[],s.size,s,rfl,Z5 _,by simp,rfl,World.ownsRow_nil _ _ _ _,ZX _ _⟩
 case round =>
  obtain ⟨acc,f,rest,rfl,hf,hlen,hacc,hown,hbl⟩:=hrel;have zf:=Z9 hacc;have pR:=Z9 hown;clear hacc hown;have hsz:=hbl.size;rcases Nat.eq_zero_or_pos rest.size with h0 | h0
  ·have n1:=(yD h0).1;have n2:=(yD h0).2;have Hv:Hid (acc=pts s.size s):=by show _=_;rw [← zf.out,Na _ _ h0,ZH]
   clear h0;go_wp2_with fail
   go_ret;exact ⟨u3,rfl,by rw [← Hv.out];exact pR.out,hbl⟩
  ·have n1:=(yC h0).1;have n2:=(yC h0).2;have hd:=Jg rest h0;obtain ⟨g,rfl⟩:∃ g,f=g + 1:=⟨f - 1,by omega⟩;have Hp:=Z9 (Jh g rest h0);have EF:Hid (∀ w',Tabs w'→Calls Tryz.prog 207 #[.string rest] w' fun e w''=>e=.returned (.tuple #[.int .i32 (ZI rest).1,.int .i64 (ZI rest).2])∧Below w'.heap.size w' w''):=fun w' h=>Tryz.utf8_DecodeRuneInString rest w' h;obtain ⟨d,Hd⟩:∃ d,Hid (ZI rest=d):=⟨_,Z9 rfl⟩;rw [Hd.out] at hd Hp EF;obtain ⟨r,n⟩:=d;obtain ⟨hn1,hn2,hr⟩:1≤n∧n≤rest.size∧r≤1114111:=hd;clear Hd;have Hz:Hid ((rest.extract n rest.size).size=rest.size - n):=by show _=_;rw [ByteArray.size_extract];omega
   go_wp2_with fail
   refine (EF.out _ (Utf8Tabs_below HT.out (hbl.mono (Z5 _)))).mono ?_;rintro e w1 ⟨rfl,hl1⟩;have hz1:=hl1.size;clear EF;by_cases hbad:r=65533∧n=1
   ·have Hx:Hid (pts (g + 1) rest=(-1 - (rest[0].toNat:Int))::pts g (rest.extract n rest.size)):=by show _=_;rw [Hp.out,if_pos hbad]
    have e1:((r:Int)==65533)=true:=by simp [hbad.1]
    have e2:((n:Int)==1)=true:=by simp [hbad.2]
    have hc:=rest[0].toNat_lt;clear hbad Hp;go_wp2_with (at_builtin;refine Dn (w0:=w1) Gz rfl _ _ rfl w.heap.size _ _ _ _ _ rfl (uN pR.out hl1) rfl rfl (by simp [Value.oneCell']) (by omega) (by omega) (by decide) ?_;intro v' w2 hb2 hg2 hl2 wB;clear hg2 wB)
    go_roundw
    case rel=>exact ⟨acc++[-1 - (rest[0].toNat:Int)],g,rest.extract n rest.size,rfl,by rw [Hz.out];omega,by rw [Hz.out,Z4];simp;omega,by rw [← zf.out,Hx.out];simp,by simpa using hb2,(hbl.trans (hl1.mono (by omega))).trans hl2⟩
    case measure=>simp [Hz.out];omega
   ·have Hx:Hid (pts (g + 1) rest=(r:Int)::pts g (rest.extract n rest.size)):=by show _=_;rw [Hp.out,if_neg hbad]
    clear Hp;by_cases h1:r=65533
    ·have e1:((r:Int)==65533)=true:=by simp [h1]
     have e2:((n:Int)==1)=false:=by simp;omega
     clear hbad h1;go_wp2_with (at_builtin;refine Dn (w0:=w1) Gz rfl _ _ rfl w.heap.size _ _ _ _ _ rfl (uN pR.out hl1) rfl rfl (by simp [Value.oneCell']) (by omega) (by omega) (by decide) ?_;intro v' w2 hb2 hg2 hl2 wB;clear hg2 wB)
     go_roundw
     case rel=>exact ⟨acc++[(r:Int)],g,rest.extract n rest.size,rfl,by rw [Hz.out];omega,by rw [Hz.out,Z4];simp;omega,by rw [← zf.out,Hx.out];simp,by simpa using hb2,(hbl.trans (hl1.mono (by omega))).trans hl2⟩
     case measure=>simp [Hz.out];omega
    ·have e1:((r:Int)==65533)=false:=by simp;omega
     clear hbad h1;go_wp2_with (at_builtin;refine Dn (w0:=w1) Gz rfl _ _ rfl w.heap.size _ _ _ _ _ rfl (uN pR.out hl1) rfl rfl (by simp [Value.oneCell']) (by omega) (by omega) (by decide) ?_;intro v' w2 hb2 hg2 hl2 wB;clear hg2 wB)
     go_roundw
     case rel=>exact ⟨acc++[(r:Int)],g,rest.extract n rest.size,rfl,by rw [Hz.out];omega,by rw [Hz.out,Z4];simp;omega,by rw [← zf.out,Hx.out];simp,by simpa using hb2,(hbl.trans (hl1.mono (by omega))).trans hl2⟩
     case measure=>simp [Hz.out];omega
def kC (B blk n:Nat)(g:Nat→Nat)(w:World):Prop:=w.ownsRow B 3 1 (.slice (some ⟨blk,0,none⟩) n n) n (rowOf n g)
theorem kC.cell {B blk n:Nat}{g:Nat→Nat}{w:World}(h:kC B blk n g w)(j:Nat)(hj:j < n):w.cell? ⟨blk,j,none⟩=some (.int .i64 (g j)):=by
 have:=World.ownsRow.cellAt h j (by omega)
 rw [this,KP n g j hj]
theorem kC.free {B blk n:Nat}{g:Nat→Nat}{w:World}(h:kC B blk n g w)(j:Nat):w.frozen? ⟨blk,j,none⟩=false:=World.ownsRow.frozenAt h j
theorem kC.lt {B blk n:Nat}{g:Nat→Nat}{w:World}(h:kC B blk n g w):B≤blk∧blk < w.heap.size:=World.ownsRow.lt h blk rfl
theorem kC.put {B blk n:Nat}{g:Nat→Nat}{w:World}(h:kC B blk n g w)(j u:Nat):kC B blk n (fun t=>if t=j then u else g t) (w.setCell ⟨blk,j,none⟩ (.int .i64 u)):=by
 have:=(World.ownsRow.stored h j (.int .i64 u)).1
 unfold kC;rw [← acp];exact this
theorem kC.other {B blk n:Nat}{g:Nat→Nat}{w:World}(h:kC B blk n g w)(c j:Nat)(u:Value)(hc:c≠blk):kC B blk n g (w.setCell ⟨c,j,none⟩ u) :=
 World.ownsRow.kept (row:=some c) h ⟨rfl,rfl,rfl,by simp [World.setCell],fun k _ hk=>Zo _ _ _ _ (fun e=>hk (by simp [e]))⟩ (.inr (by simp [Value.ownBlock];omega))
theorem kC.keep {B blk n:Nat}{g:Nat→Nat}{w w':World}(h:kC B blk n g w)(hk:Below w.heap.size w w'):kC B blk n g w':=uN h hk
theorem akw (a b:List Int)(t:Nat)(_ht:t≤b.length):D.dL (a.drop a.length) (b.drop t)=b.length - t:=by
 rw [List.drop_length,D.OX,ZK]
theorem akx (a b:List Int)(i:Nat):D.dL (a.drop i) (b.drop b.length)=a.length - i:=by
 rw [List.drop_length,D.KY,ZK]
theorem aky (a b:List Int)(i k:Nat)(x y:Int)(hx:a[i]? =some x)(hy:b[k]? =some y) :
  D.dL (a.drop i) (b.drop k)=if x=y then D.dL (a.drop (i + 1)) (b.drop (k + 1)) else 1 + min (min (D.dL (a.drop (i + 1)) (b.drop (k + 1))) (D.dL (a.drop (i + 1)) (b.drop k))) (D.dL (a.drop i) (b.drop (k + 1))):=by
 obtain ⟨hi,ex⟩:=List.getElem?_eq_some_iff.1 hx;obtain ⟨hk,ey⟩:=List.getElem?_eq_some_iff.1 hy;have e1:a.drop i=x::a.drop (i + 1):=by rw [Zz hi,ex]
 have e2:b.drop k=y::b.drop (k + 1):=by rw [Zz hk,ey]
 rw [e1,e2,D.EG,← e1,← e2]
theorem U0 (a b:List Int):D.dL a b≤a.length + b.length:=by
 have h:=D.KO a b a.length b.length;rwa [D.pre_eq] at h
theorem aes (a b:ByteArray)(w:World)(ha:a.size≤200)(hb:b.size≤200)(hT:Tabs w) :
  Calls Tryz.prog 212 #[.string a,.string b] w fun e w'=>e=.returned (.int .i64 (far a b))∧Below w.heap.size w w':=by
 have HT:=Z9 hT;clear hT;have hna:=wS a.size a (Z5 _);have hnb:=wS b.size b (Z5 _);have Hpa:Hid (∀ w',Tabs w'→Calls Tryz.prog 213 #[.string a] w' (Fa (pts a.size a) w')):=fun w' h=>ES a w' (by omega) h;have Hpb:Hid (∀ w',Tabs w'→Calls Tryz.prog 213 #[.string b] w' (Fa (pts b.size b) w')):=fun w' h=>ES b w' (by omega) h;have acH:Hid (far a b=D.dL (pts a.size a) (pts b.size b)):=by show _=_;unfold far;rw [D.pre_eq]
 rw [acH.out];clear acH;generalize pts a.size a=xs at *;generalize pts b.size b=ys at *;go_enter Tryz.func212,Tryz.ntmps212
 go_wp2_with fail
 refine (Hpa.out _ HT.out).mono ?_;rintro e w1 ⟨va,rfl,hoa,hl1⟩;have hz1:=hl1.size;have mW:=Z9 hoa;clear hoa;go_wp2_with fail
 refine (Hpb.out _ (Utf8Tabs_below HT.out hl1)).mono ?_;rintro e w2 ⟨vb,rfl,hob,hl2⟩;have hz2:=hl2.size;have Hb2:Hid (Below w.heap.size w w2):=hl1.trans (hl2.mono (by omega));have U1:=Z9 ((Rd.zx mW.out).keep hl2);have KN:=Z9 (Rd.zx hob);clear hob mW hl1 hl2 Hpa Hpb HT;obtain ⟨aa,ca,rfl⟩:∃ x c,va=.slice x xs.length c:=by
  rcases U1.out.2 with ⟨x,c,rfl,h0⟩ | ⟨blk,off,cap,rfl,_⟩
  ·exact ⟨x,c,by rw [h0]⟩
  ·exact ⟨_,cap,rfl⟩
 obtain ⟨ab,cb,rfl⟩:∃ x c,vb=.slice x ys.length c:=by
  rcases KN.out.2 with ⟨x,c,rfl,h0⟩ | ⟨blk,off,cap,rfl,_⟩
  ·exact ⟨x,c,by rw [h0]⟩
  ·exact ⟨_,cap,rfl⟩
 have Ha:Hid (∀ i,i < xs.length→∃ blk off x,aa=some ⟨blk,off,none⟩∧blk < w2.heap.size∧xs[i]? =some x∧w2.cell? ⟨blk,off + i,none⟩=some (.int .i64 x)):=by
  intro i hi;rcases U1.out.2 with ⟨x,c,he,h0⟩ | ⟨blk,off,cap,he,hk,hc⟩
  ·omega
  ·cases he;exact ⟨blk,off,_,rfl,hk,Z8 hi,hc i _ (by simp [hi])⟩
 have Hb:Hid (∀ i,i < ys.length→∃ blk off x,ab=some ⟨blk,off,none⟩∧blk < w2.heap.size∧ys[i]? =some x∧w2.cell? ⟨blk,off + i,none⟩=some (.int .i64 x)):=by
  intro i hi;rcases KN.out.2 with ⟨x,c,he,h0⟩ | ⟨blk,off,cap,he,hk,hc⟩
  ·omega
  ·cases he;exact ⟨blk,off,_,rfl,hk,Z8 hi,hc i _ (by simp [hi])⟩
 clear U1 KN;go_wp2_with (at_make;refine QZ (w0:=w2) Gz rfl _ _ rfl w2.heap.size (ys.length + 1) _ _ rfl rfl (by omega) (by omega) (Z5 _) (by omega) (by decide) ?_;intro w3 hown3 hg3 hl3;rw [UL] at hown3;clear hg3)
 have yY:=Z9 (show kC w2.heap.size w2.heap.size (ys.length + 1) (fun _=>0) w3 from hown3);clear hown3;go_loopw [22] (fun i wr=>∃ k g,k≤ys.length + 1∧i=.int .i64 k∧kC w2.heap.size w2.heap.size (ys.length + 1) g wr∧(∀ t,t < k→g t=ys.length - t)∧Below w2.heap.size w2 wr) (fun i _=>ys.length + 1 - (intOf i).toNat)
 case atStart=>exact ⟨0,fun _=>0,by omega,rfl,yY.out,fun t ht=>absurd ht (by omega),hl3⟩
 case round =>
  obtain ⟨k,g,hk,rfl,hrow,hg,hbl⟩:=hrel;clear yY hl3;have dR:=Z9 hrow;have Hg:=Z9 hg;clear hrow hg;by_cases hlt:k < ys.length + 1
  ·have c1:=dR.out.cell k hlt;have f1:=dR.out.free k;have rH:=Z9 (dR.out.put k (ys.length - k));have EC:=hbl.setCell (p:=⟨w2.heap.size,k,none⟩) (Z5 _) (.int .i64 ((ys.length - k:Nat):Int));go_wp2_with fail
   rw [show ((ys.length:Int) - k)=((ys.length - k:Nat):Int) from by omega];go_roundw
   case rel =>
    refine ⟨k + 1,_,by omega,by go_num,rH.out,fun t ht=>?_,EC⟩;by_cases h:t=k
    ·rw [if_pos h,h]
    ·rw [if_neg h];exact Hg.out t (by omega)
   case measure=>simp [intOf];omega
  ·have uI:Hid (∀ t,t≤ys.length→g t=D.dL (xs.drop (xs.length - 0)) (ys.drop t)):=fun t ht=>by rw [Hg.out t (by omega),Nat.sub_zero,akw xs ys t ht]
   clear Hg;go_wp2_with fail
   obtain ⟨wo,hwo⟩:∃ wo:World,wo=wr:=⟨_,rfl⟩;subst hwo;go_loopw [7,9] (fun v i wr=>∃ c blk g,c≤xs.length∧i=.int .i64 ((xs.length:Int) - 1 - c)∧v=.slice (some ⟨blk,0,none⟩) (ys.length + 1) (ys.length + 1)∧kC w2.heap.size blk (ys.length + 1) g wr∧(∀ t,t≤ys.length→g t=D.dL (xs.drop (xs.length - c)) (ys.drop t))∧Below w2.heap.size w2 wr) (fun _ i _=>(intOf i + 1).toNat)
   case atStart=>exact ⟨0,_,g,by omega,by simp,rfl,dR.out,uI.out,hbl⟩
   case round =>
    clear uI dR hbl hlt hk;obtain ⟨c,blk,g2,hc,rfl,rfl,hrow,hg,hbl⟩:=hrel;have dR:=Z9 hrow;have Hg:=Z9 hg;have hblt:=hrow.lt;clear hrow hg;by_cases hlt:c < xs.length
    ·obtain ⟨i,hi⟩:∃ i:Nat,xs.length - 1 - c=i:=⟨_,rfl⟩;have e1:((xs.length:Int) - 1 - c)=(i:Int):=by omega
     have hil:i < xs.length:=by omega
     have Hc:Hid (xs.length - c=i + 1):=by show _=_;omega
     have ji:Hid (xs.length - (c + 1)=i):=by show _=_;omega
     rw [Hc.out] at Hg;obtain ⟨acI,acJ,x,rfl,akz,hx,hca⟩:=Ha.out i hil;have Hx:=Z9 hx;have Hca:=Z9 hca;clear hx hca hi;simp only [e1];have He1:=Z9 e1;clear e1;go_wp2_with (at_make;refine QZ (w0:=wr) Gz rfl _ _ rfl w2.heap.size (ys.length + 1) _ _ rfl rfl (by omega) (by omega) (by omega) (by omega) (by decide) ?_;intro w4 hown4 hg4 hl4;rw [UL] at hown4;clear hg4;have yZ:=Z9 (show kC w2.heap.size wr.heap.size (ys.length + 1) (fun _=>0) w4 from hown4);clear hown4;have cm:=yZ.out.cell ys.length (by omega);have fm:=yZ.out.free ys.length)
     have acK:=Z9 (dR.out.keep hl4);have acL:=hbl.trans (hl4.mono (by omega));have U3:=Z9 (yZ.out.put ys.length (xs.length - i));have acM:=Z9 (acK.out.other wr.heap.size ys.length (.int .i64 ((xs.length - i:Nat):Int)) (by omega));have EC:=acL.setCell (p:=⟨wr.heap.size,ys.length,none⟩) (by show w2.heap.size≤wr.heap.size;omega) (.int .i64 ((xs.length - i:Nat):Int));rw [show ((xs.length:Int) - i)=((xs.length - i:Nat):Int) from by omega];clear yZ acK cm fm acL dR hbl hl4;generalize w4.setCell ⟨wr.heap.size,ys.length,none⟩ (.int .i64 ((xs.length - i:Nat):Int))=w5 at *;have Gy:Hid (blk≠wr.heap.size):=by show _≠_;omega
     have acN:w2.heap.size≤wr.heap.size:=by omega
     obtain ⟨nb,Hnb⟩:∃ nb,Hid (wr.heap.size=nb):=⟨_,Z9 rfl⟩;rw [Hnb.out] at U3 Gy acN ⊢;clear hblt;go_loopw [11] (fun j wi=>∃ d g3,d≤ys.length∧j=.int .i64 ((ys.length:Int) - 1 - d)∧kC w2.heap.size nb (ys.length + 1) g3 wi∧kC w2.heap.size blk (ys.length + 1) g2 wi∧(∀ t,t≤ys.length→ys.length - d≤t→g3 t=D.dL (xs.drop i) (ys.drop t))∧Below w2.heap.size w2 wi) (fun j _=>(intOf j + 1).toNat)
     case atStart =>
      refine ⟨0,_,by omega,by simp,U3.out,acM.out,fun t ht1 ht2=>?_,EC⟩;rw [if_pos (by omega),show t=ys.length from by omega,akx]
     case round =>
      clear U3 acM EC;obtain ⟨d,g3,hd,rfl,hrow,hold,hg,hbi⟩:=hrel;have dR:=Z9 hrow;have Hold:=Z9 hold;have KZ:=Z9 hg;clear hrow hold hg;by_cases hdl:d < ys.length
      ·obtain ⟨k2,hk2⟩:∃ k:Nat,ys.length - 1 - d=k:=⟨_,rfl⟩;have e2:((ys.length:Int) - 1 - d)=(k2:Int):=by omega
       have hkl:k2 < ys.length:=by omega
       have Hd:Hid (ys.length - d=k2 + 1):=by show _=_;omega
       have Hd2:Hid (ys.length - (d + 1)=k2):=by show _=_;omega
       have OU:Hid ((ys.length:Int) - 1 - ((d + 1:Nat):Int)=(k2:Int) - 1):=by show _=_;omega
       rw [Hd.out] at KZ;obtain ⟨acO,acP,y,rfl,akA,hy,hcb⟩:=Hb.out k2 hkl;have Hy:=Z9 hy;have hcx:wr.cell? ⟨acI,acJ + i,none⟩=some (.int .i64 x):=by rw [hbi.cell (p:=⟨acI,acJ + i,none⟩) akz];exact Hca.out
       have hcy:wr.cell? ⟨acO,acP + k2,none⟩=some (.int .i64 y):=by rw [hbi.cell (p:=⟨acO,acP + k2,none⟩) akA];exact hcb
       have cn:=dR.out.cell k2 (by omega);have fn:=dR.out.free k2;have OZ:=dR.out.cell (k2 + 1) (by omega);rw [KZ.out (k2 + 1) (by omega) (Z5 _)] at OZ;have cl:=Hold.out.cell k2 (by omega);have U4:=Hold.out.cell (k2 + 1) (by omega);rw [Hg.out k2 (by omega)] at cl;rw [Hg.out (k2 + 1) (by omega)] at U4;have GI:=Z9 (aky xs ys i k2 x y Hx.out Hy.out);have l1:=U0 (xs.drop (i + 1)) (ys.drop (k2 + 1));have l2:=U0 (xs.drop (i + 1)) (ys.drop k2);have l3:=U0 (xs.drop i) (ys.drop (k2 + 1));have hdx:(xs.drop i).length≤200:=by rw [ZK];omega
       have amr:(xs.drop (i + 1)).length≤200:=by rw [ZK];omega
       have hdy:(ys.drop k2).length≤200:=by rw [ZK];omega
       have ams:(ys.drop (k2 + 1)).length≤200:=by rw [ZK];omega
       have rH:Hid (∀ wx,Below wr.heap.size wr wx→kC w2.heap.size nb (ys.length + 1) (fun t=>if t=k2 then D.dL (xs.drop i) (ys.drop k2) else g3 t) (wx.setCell ⟨nb,k2,none⟩ (.int .i64 ((D.dL (xs.drop i) (ys.drop k2):Nat):Int)))):=fun wx h=>(dR.out.keep h).put k2 _;have U5:Hid (∀ wx,Below wr.heap.size wr wx→kC w2.heap.size blk (ys.length + 1) g2 (wx.setCell ⟨nb,k2,none⟩ (.int .i64 ((D.dL (xs.drop i) (ys.drop k2):Nat):Int)))):=fun wx h=>(Hold.out.keep h).other nb k2 _ Gy.out.symm;have hzi:=hbi.size;have U6:Hid (∀ wx,Below wr.heap.size wr wx→Below w2.heap.size w2 (wx.setCell ⟨nb,k2,none⟩ (.int .i64 ((D.dL (xs.drop i) (ys.drop k2):Nat):Int)))):=fun wx h=>(hbi.trans (h.mono hzi)).setCell (p:=⟨nb,k2,none⟩) acN _;have KR:Hid (∀ t,t≤ys.length→ys.length - (d + 1)≤t→(fun t=>if t=k2 then D.dL (xs.drop i) (ys.drop k2) else g3 t) t=D.dL (xs.drop i) (ys.drop t)):=fun t h1 h2=>by
        show (if t=k2 then _ else _)=_;by_cases h:t=k2
        ·rw [if_pos h,h]
        ·rw [if_neg h];exact KZ.out t h1 (by rw [Hd2.out] at h2;omega)
       generalize D.dL (xs.drop (i + 1)) (ys.drop (k2 + 1))=p1 at *;generalize D.dL (xs.drop (i + 1)) (ys.drop k2)=p2 at *;obtain ⟨p3,KT⟩:∃ p,Hid (D.dL (xs.drop i) (ys.drop (k2 + 1))=p):=⟨_,Z9 rfl⟩;rw [KT.out] at OZ l3 GI;clear hk2 hcb hy Hd;simp only [e2];clear e2;by_cases hxy:x=y
       ·rw [if_pos hxy] at GI;rw [GI.out] at rH U5 U6;have e3:(x==y)=true:=by simp [hxy]
        clear hxy;go_wp2_with fail
        refine wp_region_quiet_lit (by kernel_rfl) (by kernel_rfl) ?_;repeat (refine wpQuiet_step (fun K hK=>?_);go_simp;(try go_bits);(try simp (disch:=omega) only [if_pos]);(try simp (disch:=omega) only [if_neg]);(try go_simp);(refine hK _ ?_;clear hK K))
        refine wpQuiet_nil ?_;intro _ hw';obtain ⟨nq,hw''⟩:=hw';subst hw'';go_wp2_with fail
        go_roundw
        case rel=>exact ⟨d + 1,_,by omega,by rw [OU.out],rH.out _ (below_drewN _ _ _),U5.out _ (below_drewN _ _ _),by rw [← GI.out];exact KR.out,U6.out _ (below_drewN _ _ _)⟩
        case measure=>simp [intOf] <;> omega
       ·rw [if_neg hxy] at GI;have e3:(x==y)=false:=by simpa using hxy
        clear hxy;go_wp2_with fail
        refine wp_region_quiet_lit (by kernel_rfl) (by kernel_rfl) ?_;repeat (refine wpQuiet_step (fun K hK=>?_);go_simp;(try go_bits);(try simp (disch:=omega) only [if_pos]);(try simp (disch:=omega) only [if_neg]);(try go_simp);(refine hK _ ?_;clear hK K))
        refine wpQuiet_nil ?_;intro _ hw';obtain ⟨nq,hw''⟩:=hw';subst hw'';go_wp2_with fail
        have Hq0:=Z9 (below_drewN wr.heap.size wr nq);generalize wr.drewN nq=wq at *;have hkq:=Hq0.out;have U7:wq.cell? ⟨blk,k2 + 1,none⟩=some (.int .i64 p1):=by rw [hkq.cell (p:=⟨blk,k2 + 1,none⟩) Hold.out.lt.2];exact U4
        have ql:wq.cell? ⟨blk,k2,none⟩=some (.int .i64 p2):=by rw [hkq.cell (p:=⟨blk,k2,none⟩) Hold.out.lt.2];exact cl
        have U8:wq.cell? ⟨nb,k2 + 1,none⟩=some (.int .i64 p3):=by rw [hkq.cell (p:=⟨nb,k2 + 1,none⟩) dR.out.lt.2];exact OZ
        have qn:wq.cell? ⟨nb,k2,none⟩=some (.int .i64 (g3 k2)):=by rw [hkq.cell (p:=⟨nb,k2,none⟩) dR.out.lt.2];exact cn
        have qf:wq.frozen? ⟨nb,k2,none⟩=false:=by rw [hkq.frozen (p:=⟨nb,k2,none⟩) dR.out.lt.2];exact fn
        clear hkq cl U4 cn OZ fn hcx hcy;refine dF (fun w'=>w'.cell? ⟨blk,k2 + 1,none⟩=some (.int .i64 p1)∧w'.cell? ⟨blk,k2,none⟩=some (.int .i64 p2)∧w'.cell? ⟨nb,k2 + 1,none⟩=some (.int .i64 p3)) [(true,0),(true,1),(true,2),(true,3),(true,4),(true,5),(true,6),(true,7),(true,8),(true,9),(true,10),(true,11),(true,12),(true,13),(true,14),(true,15),(true,16),(true,17),(true,18),(false,19)] (by kernel_rfl) (by kernel_rfl) (fun w' hd=>⟨by rw [hd.cell];exact U7,by rw [hd.cell];exact ql,by rw [hd.cell];exact U8⟩) (fun KK aF wd hd=>?_);have dn:wd.cell? ⟨nb,k2,none⟩=some (.int .i64 (g3 k2)):=by rw [hd.cell];exact qn
        have df:wd.frozen? ⟨nb,k2,none⟩=false:=by rw [hd.frozen];exact qf
        have HC:Hid (wd.cell? ⟨blk,k2 + 1,none⟩=some (.int .i64 p1)∧wd.cell? ⟨blk,k2,none⟩=some (.int .i64 p2)∧wd.cell? ⟨nb,k2 + 1,none⟩=some (.int .i64 p3)):=⟨by rw [hd.cell];exact U7,by rw [hd.cell];exact ql,by rw [hd.cell];exact U8⟩;have gZ:Hid (Below wr.heap.size wr wd):=Hq0.out.trans (hd.below _);clear U7 ql U8 qn qf;refine aA ?_;refine iI (.int .i64 p1) rfl rfl rfl rfl Tryz.isAgg3 (fun w' h=>h.1) ?_;refine aA ?_;refine iI (.int .i64 p2) rfl rfl rfl rfl Tryz.isAgg3 (fun w' h=>h.2.1) ?_;refine aA ?_;refine iI (.int .i64 p3) rfl rfl rfl rfl Tryz.isAgg3 (fun w' h=>h.2.2) ?_;refine aA ?_;refine aV rfl (fun K hK=>?_) HC.out;go_wp2_with fail
        rw [show (1 + min (p1:Int) (min (p2:Int) (p3:Int)))=((D.dL (xs.drop i) (ys.drop k2):Nat):Int) from by rw [GI.out];omega];refine ⟨⟨?_,?_,?_⟩,?_⟩
        ·rw [World.cell?_of_block (a:=⟨blk,k2 + 1,none⟩) (Zo wd ⟨nb,k2,none⟩ _ blk Gy.out)];exact HC.out.1
        ·rw [World.cell?_of_block (a:=⟨blk,k2,none⟩) (Zo wd ⟨nb,k2,none⟩ _ blk Gy.out)];exact HC.out.2.1
        ·have hgk:=KZ.out (k2 + 1) (by omega) (Z5 _);rw [(rH.out wd gZ.out).cell (k2 + 1) (by omega),if_neg (by omega),hgk,KT.out]
        ·refine dG ?_;simp only [Exit.then];refine aF _ _ ?_;go_wp2_with fail
         go_roundw
         case rel=>exact ⟨d + 1,_,by omega,by rw [OU.out],rH.out _ gZ.out,U5.out _ gZ.out,KR.out,U6.out _ gZ.out⟩
         case measure=>simp [intOf] <;> omega
      ·have hde:d=ys.length:=by omega
       have e2:¬ (0:Int)≤(ys.length:Int) - 1 - d:=by omega
       have gV:Hid (∀ t,t≤ys.length→g3 t=D.dL (xs.drop (xs.length - (c + 1))) (ys.drop t)):=fun t ht=>by rw [ji.out];exact KZ.out t ht (by omega)
       clear hde;go_wp2_with fail
       go_roundw
       case rel=>exact ⟨c + 1,nb,g3,by omega,by have:=He1.out;congr 1;omega,rfl,dR.out,gV.out,hbi⟩
       case measure=>simp [intOf] <;> omega
    ·have hca:c=xs.length:=by omega
     have c0:=dR.out.cell 0 (by omega);rw [Hg.out 0 (by omega),hca,Nat.sub_self,List.drop_zero,List.drop_zero] at c0;have e1:¬ (0:Int)≤(xs.length:Int) - 1 - c:=by omega
     clear hca;go_wp2_with fail
     go_ret;exact ⟨rfl,Hb2.out.trans (hbl.mono (by omega))⟩
end
section
open Go.RowKit
def pX (p:Int):Bool:= !(decide (p < 32) || p==127)
theorem akB {α:Type}(p:α→Bool)(l:List α)(k:Nat):l.all p=((l.take k).all p && (l.drop k).all p):=by
 rw [← List.all_append,YK]
theorem akC (s:ByteArray)(k:Nat)(hk:k≤s.size)(p:UInt8→Bool)(h:∀ i,i < k→p (s.get! i)=true):(s.data.toList.take k).all p=true:=by
 rw [List.all_eq_true];intro x hx;obtain ⟨i,hi,e⟩:=Zn hx;rw [ZR] at hi;rw [List.getElem_take] at e;have h1:=h i (by omega);have:s.get! i=x:=by
  rw [← e];have hs:i < s.size:=by omega
  simp [ByteArray.get!,getElem!_pos s.data i (show i < s.data.size from hs)]
 rwa [this] at h1
theorem acQ:∀ (f:Nat) (s:ByteArray),s.size≤f→(pts f s).all pX=GH s
 | 0,s,h=>by
  have h0:s.size=0:=by omega
  have:s=⟨#[]⟩:=ByteArray.size_eq_zero_iff.1 h0
  subst this;rfl
 | f + 1,s,h=>by
  by_cases h0:s.size=0
  ·have:s=⟨#[]⟩:=ByteArray.size_eq_zero_iff.1 h0
   subst this;rfl
  ·have hpos:0 < s.size:=by omega
   have hne:s.data.toList≠[]:=by
    intro e;have:s.data.toList.length=0:=by rw [e];rfl
    exact h0 this
   have hdl:Lib.decodeL s.data.toList=ZI s:=by unfold Lib.decodeL ZI;rw [if_neg h0]
   have hdn:ZI s=YD s.size (s.get! 0).toNat (s.get! 1).toNat (s.get! 2).toNat (s.get! 3).toNat:=by
    unfold ZI;rw [if_neg h0,Lib.decode_at];rfl
   have hr:=Jg s hpos;have ih:=acQ f (s.extract (ZI s).2 s.size) (by rw [Lib.ext_size];omega);have hg0:s.get! 0=s[0]:=by
    simp [ByteArray.get!,getElem!_pos s.data 0 (show 0 < s.data.size from hpos)];rfl
   rw [Jh f s hpos,List.all_cons,ih];unfold GH;rw [Lib.validD_step _ hne,hdl,Lib.ext_list,akB L.tq s.data.toList (ZI s).2];rcases L.akD s.size (s.get! 0).toNat (s.get! 1).toNat (s.get! 2).toNat (s.get! 3).toNat (by omega) with ⟨e,hb⟩ | ⟨e,hb⟩ | ⟨h1,h2,h3,h4,h5,h6,h7,h8⟩
   ·rw [← hdn] at e;have hx:(s.data.toList.take 1).all L.tq=L.tq (s.get! 0):=by
     obtain ⟨⟨l⟩⟩:=s;cases l with
     | nil=>exact absurd rfl h0
     | cons a t=>simp [ByteArray.get!]
    rw [e];dsimp only
    rw [if_neg (by omega),if_neg (by omega),hx];have:pX ((s.get! 0).toNat:Int)=L.tq (s.get! 0):=by
     unfold pX L.tq;rw [Y7];simp;omega
    rw [this];cases L.tq (s.get! 0) <;> simp
   ·rw [← hdn] at e;rw [e];dsimp only
    rw [if_pos ⟨rfl,rfl⟩,if_pos ⟨rfl,rfl⟩];have:pX (-1 - (s[0].toNat:Int))=false:=by unfold pX;simp;omega
    rw [this];simp
   ·rw [← hdn] at h1 h2 h3 h4 h7 h8;rw [if_neg (by omega),if_neg (by omega)];have h9:pX ((ZI s).1:Int)=true:=by unfold pX;simp;omega
    have h10:(s.data.toList.take (ZI s).2).all L.tq=true:=by
     refine akC s _ h4 _ (fun i hi=>?_);have:i=0∨i=1∨i=2∨i=3:=by omega
     have hb:128≤(s.get! i).toNat:=by
      rcases this with rfl | rfl | rfl | rfl
      ·exact h5
      ·exact h6
      ·exact h7 (by omega)
      ·exact h8 (by omega)
     unfold L.tq;simp;omega
    rw [h9,h10];simp
theorem akE (s:ByteArray)(h:s.size≤200):uq s=if (pts s.size s).all pX then 0 else 3:=by
 rw [acQ s.size s (Z5 _),uq,if_neg (by omega)]
theorem akF (w:World):(Instr.index 338 (.agg #[.int .i64 0,.int .i64 0,.int .i64 (-1000000000000),.int .i64 0,.int .i64 0]) (.int .i64 2)).run Tryz.prog w=.ok (.int .i64 (-1000000000000)) w:=by kernel_rfl
theorem akG (w:World):(Instr.index 338 (.agg #[.int .i64 0,.int .i64 0,.int .i64 (-1000000000000),.int .i64 0,.int .i64 0]) (.int .i64 3)).run Tryz.prog w=.ok (.int .i64 0) w:=by kernel_rfl
theorem akH (w:World):(Instr.index 338 (.agg #[.int .i64 0,.int .i64 0,.int .i64 (-1000000000000),.int .i64 0,.int .i64 0]) (.int .i64 4)).run Tryz.prog w=.ok (.int .i64 0) w:=by kernel_rfl
theorem akI (w:World):(Instr.index 338 (.agg #[.int .i64 0,.int .i64 0,.int .i64 1000000000000,.int .i64 1,.int .i64 4321439]) (.int .i64 2)).run Tryz.prog w=.ok (.int .i64 1000000000000) w:=by kernel_rfl
theorem akJ (w:World):(Instr.index 338 (.agg #[.int .i64 0,.int .i64 0,.int .i64 1000000000000,.int .i64 1,.int .i64 4321439]) (.int .i64 3)).run Tryz.prog w=.ok (.int .i64 1) w:=by kernel_rfl
theorem akK (w:World):(Instr.index 338 (.agg #[.int .i64 0,.int .i64 0,.int .i64 1000000000000,.int .i64 1,.int .i64 4321439]) (.int .i64 4)).run Tryz.prog w=.ok (.int .i64 4321439) w:=by kernel_rfl
theorem akL (k n:Int)(t:ByteArray)(w:World)(hk:k≠1) :
  Calls Tryz.prog 234 #[.agg #[.int .i64 k,.string t,.int .i64 n]] w fun e w'=>e=.returned (.int .i64 (jH k t n))∧Below w.heap.size w w':=by
 obtain ⟨R,HR⟩:∃ R,Hid (jH k t n=R):=⟨_,Z9 rfl⟩;rw [HR.out];have Hb:Hid (Below w.heap.size w (w.alloc (.cells #[.int .i64 k,.string t,.int .i64 n] 174))):=(ZX _ _).alloc (Z5 _) _;have hk':(k==1)=false:=by simpa using hk
 by_cases h4:1≤k∧k≤4
 ·have e4:decide ((1:Int)≤k∧k≤4)=true:=by simp;omega
  by_cases ht:t.toList=[]
  ·have ht':t.toList.isEmpty=true:=by simpa using ht
   obtain rfl | rfl | rfl:k=2∨k=3∨k=4:=by omega
   all_goals
    clear h4 e4 hk;have i1:=@akF;have i2:=@akG;have i3:=@akH;have i4:=@akI;have i5:=@akJ;have i6:=@akK;go_enter Tryz.func234,Tryz.ntmps234
    go_wp2_with (first | (go_at_call 62;refine (iY _ _ _ _).mono ?_;rintro e _ ⟨rfl,rfl⟩))
    go_quiet (fail)
    go_wp2_with (first | (go_at_call 62;refine (iY _ _ _ _).mono ?_;rintro e _ ⟨rfl,rfl⟩))
    all_goals
     go_ret;refine ⟨aH ?_,Hb.out.trans (below_drewN _ _ _)⟩;rw [← HR.out];unfold jH;clear HR Hb i1 i2 i3 i4 i5 i6;simp_all;try omega
  ·have ht':t.toList.isEmpty=false:=by simpa using ht
   go_enter Tryz.func234,Tryz.ntmps234
   go_wp2_with (first | (go_at_call 62;refine (iY _ _ _ _).mono ?_;rintro e _ ⟨rfl,rfl⟩;rw [e4]))
   go_ret;refine ⟨aH ?_,Hb.out⟩;rw [← HR.out];unfold jH;obtain h | h | h:k=2∨k=3∨k=4:=by omega
   all_goals simp [h,ht]
 ·have e4:decide ((1:Int)≤k∧k≤4)=false:=by simp;omega
  go_enter Tryz.func234,Tryz.ntmps234
  go_wp2_with (first | (go_at_call 62;refine (iY _ _ _ _).mono ?_;rintro e _ ⟨rfl,rfl⟩;rw [e4]))
  go_ret;refine ⟨aH ?_,Hb.out⟩;rw [← HR.out];unfold jH;rw [if_neg (by omega),if_neg (by omega),if_neg (by omega),if_neg (by omega)]
theorem akM (n:Int)(t:ByteArray)(w:World)(hT:Tabs w) :
  Calls Tryz.prog 234 #[.agg #[.int .i64 1,.string t,.int .i64 n]] w fun e w'=>e=.returned (.int .i64 (jH 1 t n))∧Below w.heap.size w w':=by
 have HT:=Z9 hT;clear hT;obtain ⟨R,HR⟩:∃ R,Hid (jH 1 t n=R):=⟨_,Z9 rfl⟩;rw [HR.out];have Hb:Hid (Below w.heap.size w (w.alloc (.cells #[.int .i64 1,.string t,.int .i64 n] 174))):=(ZX _ _).alloc (Z5 _) _;by_cases hn:n=0
 ·subst hn;by_cases akN:200 < t.size
  ·go_enter Tryz.func234,Tryz.ntmps234
   go_wp2_with (first | (go_at_call 62;refine (iY _ _ _ _).mono ?_;rintro e _ ⟨rfl,rfl⟩))
   go_ret;refine ⟨aH ?_,Hb.out⟩;rw [← HR.out,jH,if_pos rfl,if_neg (show ¬ (0:Int)≠0 by simp),uq,if_pos akN]
  ·have HR2:Hid ((if (pts t.size t).all pX then (0:Int) else 3)=R):=by
    show _=_;rw [← HR.out,jH,if_pos rfl,if_neg (show ¬ (0:Int)≠0 by simp),akE t (by omega)]
   clear HR;have Hp:Hid (∀ w',Tabs w'→Calls Tryz.prog 213 #[.string t] w' (Fa (pts t.size t) w')):=fun w' h=>ES t w' (by omega) h;have hpl:=wS t.size t (Z5 _);generalize pts t.size t=ps at *;go_enter Tryz.func234,Tryz.ntmps234
   go_wp2_with (first | (go_at_call 62;refine (iY _ _ _ _).mono ?_;rintro e _ ⟨rfl,rfl⟩))
   refine (Hp.out _ (Utf8Tabs_below HT.out Hb.out)).mono ?_;rintro e w1 ⟨v,rfl,hov,hl1⟩;have Hb1:Hid (Below w.heap.size w w1):=Hb.out.trans (hl1.mono (by simp));have U9:=Z9 (Rd.zx hov);clear hov hl1 Hb Hp HT;obtain ⟨A,c,rfl⟩:∃ A c,v=.slice A ps.length c:=by
    rcases U9.out.2 with ⟨x,c,rfl,h0⟩ | ⟨blk,off,cap,rfl,_⟩
    ·exact ⟨x,c,by rw [h0]⟩
    ·exact ⟨_,cap,rfl⟩
   have Ha:Hid (∀ i,i < ps.length→∃ blk off x,A=some ⟨blk,off,none⟩∧ps[i]? =some x∧w1.cell? ⟨blk,off + i,none⟩=some (.int .i64 x)):=by
    intro i hi;rcases U9.out.2 with ⟨x,c,he,h0⟩ | ⟨blk,off,cap,he,hk,hc⟩
    ·omega
    ·cases he;exact ⟨blk,off,_,rfl,Z8 hi,hc i _ (by simp [hi])⟩
   clear U9;go_wp2_with fail
   go_loopw [27] (fun i wr=>∃ k:Nat,k≤ps.length∧i=.int .i64 k∧wr=w1∧(if (ps.drop k).all pX then (0:Int) else 3)=R) (fun i _=>ps.length - (intOf i).toNat)
   case atStart=>exact ⟨0,ZN _,rfl,rfl,HR2.out⟩
   case round =>
    obtain ⟨k,hk,rfl,rfl,hr⟩:=hrel;have Hr:=Z9 hr;clear hr HR2;by_cases hlt:k < ps.length
    ·obtain ⟨blk,off,x,rfl,hx,hc⟩:=Ha.out k hlt;have Hs:Hid ((if (pX x && (ps.drop (k + 1)).all pX) then (0:Int) else 3)=R):=by
      show _=_;rw [← Hr.out,Zz hlt,List.all_cons];have:ps[k]=x:=by simpa [Z8 hlt] using hx
      rw [this]
     clear hx Hr;by_cases hp:pX x=true
     ·have h1:decide (x < 32)=false∧(x==127)=false:=by simpa [pX] using hp
      have h2:=h1.1;have h3:=h1.2;rw [hp] at Hs;clear h1 hp;go_wp2_with fail
      go_roundw
      case rel=>exact ⟨k + 1,by omega,by go_num,trivial,by rw [← Hs.out];simp⟩
      case measure=>simp [intOf];omega
     ·have hp':pX x=false:=by simpa using hp
      rw [hp'] at Hs;have h1:x < 32∨x=127:=by
       have:32≤x→x=127:=by simpa [pX] using hp'
       omega
      clear hp hp';by_cases h2:x < 32
      ·clear h1;go_wp2_with fail
       go_ret;exact ⟨aH (by rw [← Hs.out];simp),Hb1.out⟩
      ·have h3:(x==127)=true:=by simp;omega
       clear h1;go_wp2_with fail
       go_ret;exact ⟨aH (by rw [← Hs.out];simp),Hb1.out⟩
    ·go_wp2_with fail
     go_ret;exact ⟨aH (by rw [← Hr.out,ZJ (by omega)];simp),Hb1.out⟩
 ·have hn':(n != 0)=true:=by simpa using hn
  go_enter Tryz.func234,Tryz.ntmps234
  go_wp2_with (first | (go_at_call 62;refine (iY _ _ _ _).mono ?_;rintro e _ ⟨rfl,rfl⟩))
  go_ret;refine ⟨aH ?_,Hb.out⟩;rw [← HR.out,jH,if_pos rfl,if_pos hn]
theorem akO (k n:Int)(t:ByteArray)(w:World)(hT:Tabs w) :
  Calls Tryz.prog 234 #[.agg #[.int .i64 k,.string t,.int .i64 n]] w fun e w'=>e=.returned (.int .i64 (jH k t n))∧Below w.heap.size w w':=by
 by_cases hk:k=1
 ·subst hk;exact akM n t w hT
 ·exact akL k n t w hk
theorem aan (a:ByteArray)(h:L.isKey a=true):jf a ⟨#[]⟩=false:=by
 have hz:1≤a.size:=by
  unfold L.isKey at h;simp only [ZQ,decide_eq_true_eq] at h;exact h.1.1.1
 have h1:=(yC hz).1;have h2:=(yD (t:=⟨#[]⟩) rfl).1;unfold jf;rw [h2];generalize a.toList=l at h1;cases l with
 | nil=>exact absurd rfl h1
 | cons x t=>rfl
def GK (xs:List aQ)(k:Nat):ByteArray:=if k=0 then ⟨#[]⟩ else ((xs[k - 1]?).map aQ.name).getD ⟨#[]⟩
theorem akP (xs:List aQ)(k:Nat)(f:aQ)(hk:k < xs.length)(h:L.isKey f.name=true):(wC xs k).any (fun p=>jf f.name p)=jf f.name (GK xs k):=by
 unfold wC GK;by_cases h0:k=0
 ·rw [if_pos h0,if_pos h0,aan _ h];rfl
 ·rw [if_neg h0,if_neg h0,Z8 (by omega)];rfl
theorem akQ (xs:List aQ)(k:Nat)(f:aQ)(h:xs[k]? =some f):GK xs (k + 1)=f.name:=by
 unfold GK;rw [if_neg (by omega),Nat.add_sub_cancel,h];rfl
theorem akR (xs:List aQ)(k:Nat)(f:aQ)(h:xs[k]? =some f):wC xs (k + 1)=some f.name:=by
 unfold wC;rw [if_neg (by omega),Nat.add_sub_cancel,h];rfl
theorem af5 (N:Nat→Prop)(A:Option Addr)(xs:List aQ)(c:Nat)(w:World)(hS:Sl bK N w A xs)(hsm:∀ f∈xs,f.small)(hn:xs.length≤1000000000)(hT:Tabs w) :
  Calls Tryz.prog 163 #[.slice A xs.length c] w fun e w'=>e=.returned (.int .i64 (nM xs))∧Below w.heap.size w w':=by
 have HT:=Z9 hT;have HS:=Z9 hS;have Hsm:=Z9 hsm;clear hT hS hsm;obtain ⟨R,HR⟩:∃ R,Hid (nM xs=R):=⟨_,Z9 rfl⟩;rw [HR.out];by_cases h30:30 < xs.length
 ·go_enter Tryz.func163,Tryz.ntmps163
  go_wp2_with fail
  go_ret;exact ⟨aH (by rw [← HR.out];simp [nM,h30]),ZX _ _⟩
 ·have HR2:Hid (kZ none xs=R):=by show _=_;rw [← HR.out,nM,if_neg h30]
  clear HR;go_enter Tryz.func163,Tryz.ntmps163
  go_wp2_with fail
  go_loopw [3,12] (fun v i wr=>∃ k:Nat,k≤xs.length∧i=.int .i64 k∧v=.string (GK xs k)∧kZ (wC xs k) (xs.drop k)=R∧Below w.heap.size w wr) (fun _ i _=>xs.length - (intOf i).toNat)
  case atStart=>exact ⟨0,ZN _,rfl,rfl,HR2.out,ZX _ _⟩
  case round =>
   clear HR2;obtain ⟨k,hk,rfl,rfl,hr,hbl⟩:=hrel;have Hr:=Z9 hr;clear hr;by_cases hlt:k < xs.length
   ·obtain ⟨f,hf⟩:∃ f,xs[k]? =some f:=⟨_,Z8 hlt⟩;obtain ⟨blk,off,rfl,hblk,c0,c1,c2,c3⟩:=HS.out.wO k f hf;have d0:=(hbl.cell (p:=⟨blk,off + k * 4,none⟩) hblk).trans c0;have d1:=(hbl.cell (p:=⟨blk,off + k * 4 + 1,none⟩) hblk).trans c1;have d2:=(hbl.cell (p:=⟨blk,off + k * 4 + 2,none⟩) hblk).trans c2;have d3:=(hbl.cell (p:=⟨blk,off + k * 4 + 3,none⟩) hblk).trans c3;have yg:f.name.size≤1000000000:=And.left (Hsm.out f (Z7 hf));have Hf:=Z9 hf;clear c0 c1 c2 c3 hf;have bP:Hid (kZ (wC xs k) (f::xs.drop (k + 1))=R):=by
     show _=_;rw [← Hr.out,Zz hlt];have:xs[k]=f:=by simpa [Z8 hlt] using Hf.out
     rw [this]
    clear Hr;have mY:Hid (∀ w',Below w.heap.size w w'→Calls Tryz.prog 234 #[.agg #[.int .i64 f.kind,.string f.text,.int .i64 f.num]] w' fun e w''=>e=.returned (.int .i64 (jH f.kind f.text f.num))∧Below w'.heap.size w' w''):=fun w' h=>akO _ _ _ w' (Utf8Tabs_below HT.out h);have Hb1:Hid (Below w.heap.size w (wr.alloc (.cells #[.string f.name,.int .i64 f.kind,.string f.text,.int .i64 f.num] 176))):=hbl.alloc hbl.size _;have hsz:=hbl.size;by_cases h1:L.isKey f.name=true
    ·have HL:=Z9 (akP xs k f hlt h1);generalize GK xs k=last at *;go_wp2_with fail
     refine (E8 f.name _ yg).mono ?_;rintro e w0 ⟨rfl,EH⟩;have Va:=EH.size;rw [h1];have Hb2:Hid (Below w.heap.size w w0):=Hb1.out.trans (EH.mono (by simp;omega));have q1:∀ j:Nat,w0.cell? ⟨wr.heap.size,j,none⟩=(wr.alloc (.cells #[.string f.name,.int .i64 f.kind,.string f.text,.int .i64 f.num] 176)).cell? ⟨wr.heap.size,j,none⟩:=fun j=>EH.cell (p:=⟨wr.heap.size,j,none⟩) (by simp);have q2:w0.cell? ⟨wr.heap.size,0,none⟩=some (.string f.name):=by rw [q1,World.cell?_alloc_at _ _ _ _ rfl];rfl
     have q3:w0.cell? ⟨wr.heap.size,1,none⟩=some (.int .i64 f.kind):=by rw [q1,World.cell?_alloc_at _ _ _ _ rfl];rfl
     have q4:w0.cell? ⟨wr.heap.size,2,none⟩=some (.string f.text):=by rw [q1,World.cell?_alloc_at _ _ _ _ rfl];rfl
     have q5:w0.cell? ⟨wr.heap.size,3,none⟩=some (.int .i64 f.num):=by rw [q1,World.cell?_alloc_at _ _ _ _ rfl];rfl
     have hz0:wr.heap.size < w0.heap.size:=by simp at Va;omega
     clear q1 d0 d1 d2 d3 EH Va;by_cases h2:jH f.kind f.text f.num=0
     ·rw [h2] at mY;go_wp2_with fail
      refine (mY.out _ Hb2.out).mono ?_;rintro e w1 ⟨rfl,bH⟩;have kH:=bH.size;have r2:w1.cell? ⟨wr.heap.size,0,none⟩=some (.string f.name):=(bH.cell (p:=⟨wr.heap.size,0,none⟩) hz0).trans q2;clear q2 q3 q4 q5 mY;have Hb3:Hid (Below w.heap.size w w1):=Hb2.out.trans (bH.mono (by omega));go_wp2_with fail
      ·have hle:jf f.name last=true:=by
        have h:Op.bytesLess f.name.toList last.toList=true∨(f.name.toList==last.toList)=true:=by assumption
        unfold jf;rw [Ze];exact h
       go_ret;exact ⟨aH (by rw [← bP.out,kZ,h1,h2,HL.out,hle];simp),Hb3.out⟩
      ·have hle:Hid (jf f.name last=false):=by
        have h:Op.bytesLess f.name.toList last.toList=false∧(f.name.toList==last.toList)=false:=by assumption
        show jf _ _=_;unfold jf;rw [h.1,h.2];rfl
       go_roundw
       case rel=>exact ⟨k + 1,by omega,by go_num,by rw [akQ xs k f Hf.out],by rw [← bP.out,kZ,h1,h2,HL.out,hle.out,akR xs k f Hf.out];simp,Hb3.out⟩
       case measure=>simp [intOf];omega
     ·go_wp2_with fail
      refine (mY.out _ Hb2.out).mono ?_;rintro e w1 ⟨rfl,bH⟩;have kH:=bH.size;go_wp2_with fail
      go_ret;exact ⟨aH (by rw [← bP.out,kZ,h1];simp [h2]),Hb2.out.trans (bH.mono (by omega))⟩
    ·have h1:L.isKey f.name=false:=by simpa using h1
     go_wp2_with fail
     refine (E8 f.name _ yg).mono ?_;rintro e w0 ⟨rfl,EH⟩;have Va:=EH.size;rw [h1];go_wp2_with fail
     go_ret;exact ⟨aH (by rw [← bP.out,kZ,h1];simp),Hb1.out.trans (EH.mono (by simp;omega))⟩
   ·go_wp2_with fail
    go_ret;exact ⟨aH (by rw [← Hr.out,ZJ (by omega)];rfl),hbl⟩
end
end Go.Proofs.YtmkkppknaikjjaaGreatDoor
