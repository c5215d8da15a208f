/- Several texts in one: PtsOf, Copy, InsOwn, InsDb. -/
import Derived.Test.YtmkkppknaikjjaaGreatDoorPack4
import Derived.Lib.AppendZerosOnto
import Derived.Shelf.Spec.SlicesInsert
/- What handref2.PointsOf returns. -/
set_option maxHeartbeats 8000000
set_option maxRecDepth 100000
open Go.Lib renaming hid→Z9
open List renaming getElem?_eq_getElem→Z8, mem_of_getElem?→Z7, length_append→Z4, length_cons→ZV, getElem?_map→ZT, length_take→ZR, map_append→ZP, append_assoc→ZM, length_drop→ZK, drop_eq_nil_of_le→ZJ, getElem?_append_right→ZF, size_toArray→ZC, getElem?_append_left→Zy, map_cons→Zt, take_length→Zp, flatten_cons→Zb, flatten_append→Y9, mem_cons_self→Y2, take_left'→YM, take_append_drop→YK
open Go.RowKit.Below renaming refl→ZX
open Nat renaming min_eq_left→Zl, zero_add→Zh, succ_mul→YV
open Go.IntKind renaming wrap_i64→Zc
open Array renaming length_toList→Y8
namespace Go.Proofs.YtmkkppknaikjjaaGreatDoor
section
open Go.RowKit
theorem adM (N:Nat→Prop)(Am Aa Ab:Option Addr)(ms:List cu)(a b:List aQ)(cm ca cb:Nat)(w:World)(hM:Sl lK N w Am ms)(hA:Sl bK N w Aa a)(hB:Sl bK N w Ab b)(hm:Xq ms)(ha:uw a)(hb:uw b)(hT:Tabs w) :
  Calls Tryz.prog 66 #[.slice Am ms.length cm,.slice Aa a.length ca,.slice Ab b.length cb] w fun e w'=>e=.returned (.int .i64 (fV a b ms))∧Below w.heap.size w w':=by
 have HM:=Z9 hM;have HA:=Z9 hA;have HB:=Z9 hB;have Hm:=Z9 hm;have Ha:=Z9 ha;have Hb:=Z9 hb;have HT:=Z9 hT;have hml:=hm.1;have hal:=ha.1;have alD:=hb.1;clear hM hA hB hm ha hb hT;obtain ⟨R,HR⟩:∃ R,Hid (fV a b ms=R):=⟨_,Z9 rfl⟩;rw [HR.out];go_enter Tryz.func66,Tryz.ntmps66
 go_wp2_with fail
 go_loopw [7,16] (fun s i wr=>∃ (k:Nat) (t:Int),k≤ms.length∧i=.int .i64 k∧s=.int .i64 t∧t + fV a b (ms.drop k)=R∧-(900000 * (k:Int))≤t∧t≤900000 * (k:Int)∧Below w.heap.size w wr) (fun _ i _=>ms.length - (intOf i).toNat)
 case atStart=>exact ⟨0,0,by omega,rfl,rfl,by simpa using HR.out,by omega,by omega,ZX _ _⟩
 case round =>
  clear HR;obtain ⟨k,t,hk,rfl,rfl,hr,ht1,ht2,hbl⟩:=hrel;have Hr:=Z9 hr;clear hr;by_cases hlt:k < ms.length
  ·obtain ⟨m,hmk⟩:∃ m,ms[k]? =some m:=⟨_,Z8 hlt⟩;obtain ⟨blk,off,rfl,hblk,d0,d1,d2,d3⟩:=(HM.out.aK hbl).meas k m hmk;have kE:=Z9 (Hm.out.2 m (Z7 hmk));have aew:=kE.out.2;have bP:Hid (t + (kU m b a + fV a b (ms.drop (k + 1)))=R):=by show _=_;rw [← Hr.out,MB hmk];rfl
   clear Hr hmk;have gq:=LV.new wr wr.heap.size #[.string m.name,.int .i64 m.how,.int .i64 m.far,.int .i64 m.pts] 96 rfl;have Hb1:Hid (Below w.heap.size w (wr.alloc (.cells #[.string m.name,.int .i64 m.how,.int .i64 m.far,.int .i64 m.pts] 96))):=hbl.alloc hbl.size _;have hsz:=hbl.size;clear hbl;go_wp2_with fail
   clear d0 d1 d2 d3;obtain ⟨X,hX⟩:∃ X,X=wr.heap.size:=⟨_,rfl⟩;have QL:w.heap.size≤X:=by omega
   rw [← hX] at gq ⊢;generalize wr.alloc (.cells #[.string m.name,.int .i64 m.how,.int .i64 m.far,.int .i64 m.pts] 96)=W1 at *;have hXW:=gq.lt;clear hX hsz;go_loopw [7,22] (fun s i wr=>∃ (p:Nat) (t2:Int),p≤a.length∧i=.int .i64 p∧s=.int .i64 t2∧t2 + (kU m b (a.drop p) + fV a b (ms.drop (k + 1)))=R∧-(900000 * (k:Int) + 30000 * (p:Int))≤t2∧t2≤900000 * (k:Int) + 30000 * (p:Int)∧Below W1.heap.size W1 wr) (fun _ i _=>a.length - (intOf i).toNat)
   case atStart=>exact ⟨0,t,by omega,rfl,rfl,bP.out,by omega,by omega,ZX _ _⟩
   case round =>
    clear bP;obtain ⟨p,t2,hp,rfl,rfl,hr2,afb,afc,Ac⟩:=hrel;have Hr:=Z9 hr2;have Hb2:=Z9 (Hb1.out.trans (Ac.mono Hb1.out.size));have zQ:=LV.kb2 gq Ac hXW;clear hr2 ht1 ht2;by_cases hlt2:p < a.length
    ·obtain ⟨f,hf⟩:∃ f,a[p]? =some f:=⟨_,Z8 hlt2⟩;obtain ⟨alE,alF,rfl,alG,d0,d1,d2,d3⟩:=(HA.out.aK Hb2.out).wO p f hf;have hft:=Ha.out.2.1 f (Z7 hf);have bP:Hid (t2 + (goB m f b + kU m b (a.drop (p + 1)) + fV a b (ms.drop (k + 1)))=R):=by show _=_;rw [← Hr.out,MB hf];rfl
     clear Hr hf;have Hb3:Hid (Below W1.heap.size W1 (wr.alloc (.cells #[.string f.name,.int .i64 f.kind,.string f.text,.int .i64 f.num] 176))):=Ac.alloc Ac.size _;have IL:=zQ.alloc (.cells #[.string f.name,.int .i64 f.kind,.string f.text,.int .i64 f.num] 176);have Fe:=LV.new wr wr.heap.size #[.string f.name,.int .i64 f.kind,.string f.text,.int .i64 f.num] 176 rfl;clear zQ Hb2 Ac;go_wp2_with fail
     clear d0 d1 d2 d3;obtain ⟨Y,hY⟩:∃ Y,Y=wr.heap.size:=⟨_,rfl⟩;rw [← hY] at Fe ⊢;generalize wr.alloc (.cells #[.string f.name,.int .i64 f.kind,.string f.text,.int .i64 f.num] 176)=W2 at *;have afd:=IL.lt;have afe:=Fe.lt;clear hY;go_loopw [7,28] (fun s i wr=>∃ (q:Nat) (t3:Int),q≤b.length∧i=.int .i64 q∧s=.int .i64 t3∧t3 + (goB m f (b.drop q) + kU m b (a.drop (p + 1)) + fV a b (ms.drop (k + 1)))=R∧-(900000 * (k:Int) + 30000 * (p:Int) + 1000 * (q:Int))≤t3∧t3≤900000 * (k:Int) + 30000 * (p:Int) + 1000 * (q:Int)∧Below W2.heap.size W2 wr) (fun _ i _=>b.length - (intOf i).toNat)
     case atStart=>exact ⟨0,t2,by omega,rfl,rfl,bP.out,by omega,by omega,ZX _ _⟩
     case round =>
      clear bP;obtain ⟨q,t3,hq,rfl,rfl,hr3,alH,alI,FC⟩:=hrel;have Hr:=Z9 hr3;have Hb4:=Z9 (Hb3.out.trans (FC.mono Hb3.out.size));have Hb5:=Z9 (Hb1.out.trans (Hb4.out.mono Hb1.out.size));have uO:=LV.kb2 IL FC afd;have zS:=LV.kb2 Fe FC afe;clear hr3 afb afc;by_cases hlt3:q < b.length
      ·obtain ⟨g,hg⟩:∃ g,b[q]? =some g:=⟨_,Z8 hlt3⟩;obtain ⟨alJ,alK,rfl,alL,d0,d1,d2,d3⟩:=(HB.out.aK Hb5.out).wO q g hg;have hgt:=Hb.out.2.1 g (Z7 hg);have bP:Hid (t3 + (gain m f g + goB m f (b.drop (q + 1)) + kU m b (a.drop (p + 1)) + fV a b (ms.drop (k + 1)))=R):=by show _=_;rw [← Hr.out,MB hg];rfl
       clear Hr hg;have rU:Hid (Below W2.heap.size W2 (wr.alloc (.cells #[.string g.name,.int .i64 g.kind,.string g.text,.int .i64 g.num] 176))):=FC.alloc FC.size _;have X9:Hid (Below w.heap.size w (wr.alloc (.cells #[.string g.name,.int .i64 g.kind,.string g.text,.int .i64 g.num] 176))):=Hb5.out.alloc Hb5.out.size _;have Dj:=uO.alloc (.cells #[.string g.name,.int .i64 g.kind,.string g.text,.int .i64 g.num] 176);have Ja:=zS.alloc (.cells #[.string g.name,.int .i64 g.kind,.string g.text,.int .i64 g.num] 176);have aff:=LV.new wr wr.heap.size #[.string g.name,.int .i64 g.kind,.string g.text,.int .i64 g.num] 176 rfl;have yh:=Z9 (aer m f.kind f.num g.kind g.num f.text g.text _ (Utf8Tabs_below HT.out X9.out) hft hgt kE.out.1);change Hid (Calls _ _ _ _ fun e w'=>e=.returned (.bool (fits m f g))∧_) at yh;have x0:(wr.alloc (.cells #[.string g.name,.int .i64 g.kind,.string g.text,.int .i64 g.num] 176)).cell? ⟨X,0,none⟩=some (.string m.name):=Dj.cell 0 _ rfl;have x1:(wr.alloc (.cells #[.string g.name,.int .i64 g.kind,.string g.text,.int .i64 g.num] 176)).cell? ⟨X,1,none⟩=some (.int .i64 m.how):=Dj.cell 1 _ rfl;have x2:(wr.alloc (.cells #[.string g.name,.int .i64 g.kind,.string g.text,.int .i64 g.num] 176)).cell? ⟨X,2,none⟩=some (.int .i64 m.far):=Dj.cell 2 _ rfl;have x3:(wr.alloc (.cells #[.string g.name,.int .i64 g.kind,.string g.text,.int .i64 g.num] 176)).cell? ⟨X,3,none⟩=some (.int .i64 m.pts):=Dj.cell 3 _ rfl;have y0:(wr.alloc (.cells #[.string g.name,.int .i64 g.kind,.string g.text,.int .i64 g.num] 176)).cell? ⟨Y,0,none⟩=some (.string f.name):=Ja.cell 0 _ rfl
       have y1:(wr.alloc (.cells #[.string g.name,.int .i64 g.kind,.string g.text,.int .i64 g.num] 176)).cell? ⟨Y,1,none⟩=some (.int .i64 f.kind):=Ja.cell 1 _ rfl;have y2:(wr.alloc (.cells #[.string g.name,.int .i64 g.kind,.string g.text,.int .i64 g.num] 176)).cell? ⟨Y,2,none⟩=some (.string f.text):=Ja.cell 2 _ rfl;have y3:(wr.alloc (.cells #[.string g.name,.int .i64 g.kind,.string g.text,.int .i64 g.num] 176)).cell? ⟨Y,3,none⟩=some (.int .i64 f.num):=Ja.cell 3 _ rfl;clear zS uO Ja aff FC Hb5;by_cases hfn:f.name=m.name
       ·have hfn':=yx.2 hfn;have MP:=Z9 hfn;clear hfn;by_cases hgn:g.name=m.name
        ·have afg:=yx.2 hgn;have Hgn:=Z9 hgn;clear hgn;go_wp2_with fail
         refine (yh.out).mono ?_;rintro e w5 ⟨rfl,hl5⟩;have Ya:=Z9 (rU.out.trans (hl5.mono rU.out.size));have v3:w5.cell? ⟨X,3,none⟩=some (.int .i64 m.pts):=(LV.kb2 Dj hl5 Dj.lt).cell 3 _ rfl;clear x0 x1 x2 x3 y0 y1 y2 y3 hl5 yh X9 rU Dj d0 d1 d2 d3;by_cases hfit:fits m f g=true
         ·rw [hfit];have Hn:Hid (t3 + m.pts + (goB m f (b.drop (q + 1)) + kU m b (a.drop (p + 1)) + fV a b (ms.drop (k + 1)))=R):=by show _=_;rw [← bP.out,gain,if_pos ⟨MP.out,Hgn.out,hfit⟩];omega
          clear bP;go_wp2_with fail
          go_roundw
          case rel=>exact ⟨q + 1,t3 + m.pts,by omega,by go_num,rfl,Hn.out,by omega,by omega,Ya.out⟩
          case measure=>simp [intOf];omega
         ·have MF:fits m f g=false:=by simpa using hfit
          rw [MF];have Hn:Hid (t3 + (goB m f (b.drop (q + 1)) + kU m b (a.drop (p + 1)) + fV a b (ms.drop (k + 1)))=R):=by show _=_;rw [← bP.out,gain,if_neg (fun e=>hfit e.2.2)];omega
          clear bP;go_wp2_with fail
          go_roundw
          case rel=>exact ⟨q + 1,t3,by omega,by go_num,rfl,Hn.out,by omega,by omega,Ya.out⟩
          case measure=>simp [intOf];omega
        ·have afg:(g.name.toList==m.name.toList)=false:=by
          cases h:g.name.toList==m.name.toList with
          | false=>rfl
          | true=>exact absurd (yx.1 h) hgn
         have Hn:Hid (t3 + (goB m f (b.drop (q + 1)) + kU m b (a.drop (p + 1)) + fV a b (ms.drop (k + 1)))=R):=by show _=_;rw [← bP.out,gain,if_neg (fun e=>hgn e.2.1)];omega
         clear bP yh;go_wp2_with fail
         go_roundw
         case rel=>exact ⟨q + 1,t3,by omega,by go_num,rfl,Hn.out,by omega,by omega,rU.out⟩
         case measure=>simp [intOf];omega
       ·have hfn':(f.name.toList==m.name.toList)=false:=by
         cases h:f.name.toList==m.name.toList with
         | false=>rfl
         | true=>exact absurd (yx.1 h) hfn
        have Hn:Hid (t3 + (goB m f (b.drop (q + 1)) + kU m b (a.drop (p + 1)) + fV a b (ms.drop (k + 1)))=R):=by show _=_;rw [← bP.out,gain,if_neg (fun e=>hfn e.1)];omega
        clear bP yh;go_wp2_with fail
        go_roundw
        case rel=>exact ⟨q + 1,t3,by omega,by go_num,rfl,Hn.out,by omega,by omega,rU.out⟩
        case measure=>simp [intOf];omega
      ·have Hn:Hid (t3 + (kU m b (a.drop (p + 1)) + fV a b (ms.drop (k + 1)))=R):=by show _=_;rw [← Hr.out,ZJ (show b.length≤q by omega)];simp only [goB];omega
       clear Hr Hb5 uO zS;go_wp2_with fail
       go_roundw
       case rel=>exact ⟨p + 1,t3,by omega,by go_num,rfl,Hn.out,by omega,by omega,Hb4.out⟩
       case measure=>simp [intOf];omega
    ·have Hn:Hid (t2 + fV a b (ms.drop (k + 1))=R):=by show _=_;rw [← Hr.out,ZJ (show a.length≤p by omega)];simp only [kU];omega
     clear Hr zQ;go_wp2_with fail
     go_roundw
     case rel=>exact ⟨k + 1,t2,by omega,by go_num,rfl,Hn.out,by omega,by omega,Hb2.out⟩
     case measure=>simp [intOf];omega
  ·have Hn:Hid (t=R):=by show _=_;rw [← Hr.out,ZJ (by omega)];simp [fV]
   clear Hr;go_wp2_with fail
   go_ret;exact ⟨aH Hn.out,hbl⟩
end
section
open Go Go.RowKit
theorem MR (w:World)(dT sT ty elem:TypeId)(k g o dLen dCap:Nat)(a:Addr)(sLen sCap:Nat)(cur:Array Value)(t:TypeId)(cs:List Value)
  (hu:Tryz.prog.underlying dT=some (.slice elem)) (hs:(Tryz.prog.info? elem).map (·.size)=some k)
  (hg:w.heap[g]? =some (.cells cur t (0,0))) (hn:cs.length=Nat.min sLen dLen * k)
  (hsrc:∀ j v,cs[j]? =some v→w.cell? (a.add j)=some v) (hfit:o + cs.length≤cur.size) (h1:∀ v∈cs,v.oneCell'=true) :
  (Builtin.copy_ #[dT,sT] ty #[.slice (some ⟨g,o,none⟩) dLen dCap,.slice (some a) sLen sCap]).run Tryz.prog w =
   .ok (goInt (Nat.min sLen dLen)) (w.setRow g (cur.toList.take o++cs++cur.toList.drop (o + cs.length)).toArray):=by
 have hl:=run_loadCells_list (P:=Tryz.prog) w a cs hsrc;have hst:=run_storeCells_at Tryz.prog g o t cs 0 cur w hg (by simpa using hfit) h1;cases hq:Tryz.prog.info? elem with
 | none=>simp [hq] at hs
 | some i =>
  have hi:i.size=k:=by simpa [hq] using hs
  rw [hn] at hl;simp [Builtin.copy_,run_underlying hu,Builtin.lenOf,Builtin.firstCells,sizeOf,typeInfo,hq,hi,hl,hst]
end
section
open Go Go.RowKit
section
variable {α:Type} {r:Rep α} {f:α→List Value}
theorem Own.QM (hf:r.Flat f){M:Nat→Prop}{B E g n cap:Nat}{w:World}{xs:List α}(h:Own r M B E w (.slice (some ⟨g,0,none⟩) n cap) xs):∃ cur,w.heap[g]? =some (.cells cur E (0,0))∧n=xs.length∧n≤cap∧cap≤maxLen∧cur.size=cap * r.size∧cur.toList.take (xs.length * r.size)=(xs.map f).flatten∧B≤g:=by
 obtain ⟨ls,hl,hr,ho⟩:=h;have he:ls=xs.map f:=Own.isMap hf hl hr;subst he;rcases ho.2 with ⟨h0,_⟩ | ⟨g',cap',cur,e,hB,hg,hn,hcm,hcs,htk⟩
 ·cases h0
 ·simp only [Value.slice.injEq,Option.some.injEq,Addr.mk.injEq,and_true] at e;obtain ⟨rfl,rfl,rfl⟩:=e;exact ⟨cur,hg,rfl,hn,hcm,hcs,htk,hB⟩
theorem Mem.Yb (hf:r.Flat f){w0 w:World}{cs:List Chunk}{B E g n cap:Nat}{xs:List α}(S:Mem w0 w (.own r B E (.slice (some ⟨g,0,none⟩) n cap) xs::cs))(hfl:∀ x,(f x).length=r.size)(cur:Array Value)(ys:List α)(hc:cur.size=cap * r.size)(ht:cur.toList.take (ys.length * r.size)=(ys.map f).flatten)(hy:ys.length≤cap) :
  Mem w0 (w.setRow g cur) (.own r B E (.slice (some ⟨g,0,none⟩) ys.length cap) ys::cs):=by
 obtain ⟨afh,hg,_,_,hcm,_,_,hB⟩:=(S.ow 0 rfl).QM hf;have hgr:w.grownBy (w.setRow g cur) (Value.slice (some ⟨g,0,none⟩) n cap).ownBlock:=⟨rfl,rfl,rfl,by simp [World.setRow],fun k _ hk=>setRow_other w g k _ (fun e=>hk (by rw [e];rfl))⟩;have hbl:Below w0.heap.size w (w.setRow g cur):=(ZX _ w).grown hgr S.b.size (fun k hk=>S.new _ (Y2 ..) k hk);have oH:jK (fun k=>(Value.slice (some ⟨g,0,none⟩) n cap).ownBlock=some k) w (w.setRow g cur):=⟨hgr.size,fun k hk hn=>hgr.block k hk (fun e=>hn e.symm)⟩;refine S.upd 0 rfl (.own r B E (.slice (some ⟨g,0,none⟩) ys.length cap) ys) oH (S.b.trans hbl) (fun k e=>.inl e) ?_;refine ⟨ys.map f,by simp,fun j y l e1 e2=>(hf _ _ _ _).2 ?_,by rw [wW hfl],.inr ⟨g,cap,cur,rfl,hB,setRow_heap w g afh cur E (0,0) hg,hy,hcm,hc,?_⟩⟩
 ·rw [ZT,e1] at e2;exact (Option.some.inj e2).symm
 ·exact ht
theorem afi {k cap i:Nat}{xs:List α}{x:α}(hfl:∀ x,(f x).length=k)(cur:List Value)(hc:cur.length=cap * k)(hn:xs.length + 1≤cap)(hi:i≤xs.length)(ht:cur.take (xs.length * k)=(xs.map f).flatten) :
  let c1:=cur.take ((i + 1) * k)++(((xs.drop i).map f).flatten++cur.drop ((i + 1) * k + ((xs.drop i).map f).flatten.length))
  let c2:=c1.take (i * k)++(f x++c1.drop (i * k + (f x).length))
  c1.length=cap * k∧c2.length=cap * k∧c2.take ((xs.take i++x::xs.drop i).length * k)=((xs.take i++x::xs.drop i).map f).flatten:=by
 have hml:∀ ys:List α,(ys.map f).flatten.length=ys.length * k:=fun ys=>by
  induction ys with
  | nil=>simp
  | cons y t ih=>rw [Zt,Zb,Z4,hfl,ih,ZV,YV];omega
 have hdl:((xs.drop i).map f).flatten.length=(xs.length - i) * k:=by rw [hml,ZK]
 have e1:(i + 1) * k=i * k + k:=YV i k;have e2:(xs.length - i) * k + i * k=xs.length * k:=by rw [← Nat.add_mul,Nat.sub_add_cancel hi]
 have e3:(xs.length + 1) * k=xs.length * k + k:=YV _ k;have e4:(xs.length + 1) * k≤cap * k:=Nat.mul_le_mul_right k hn;intro c1 c2;have l1:c1.length=cap * k:=by
  show (cur.take ((i + 1) * k)++(((xs.drop i).map f).flatten++cur.drop ((i + 1) * k + ((xs.drop i).map f).flatten.length))).length=_;rw [Z4,Z4,ZR,ZK,hdl,hc];omega
 have l2:c2.length=cap * k:=by
  show (c1.take (i * k)++(f x++c1.drop (i * k + (f x).length))).length=_;rw [Z4,Z4,ZR,ZK,hfl,l1];omega
 refine ⟨l1,l2,?_⟩;have t1:c1.take (i * k)=((xs.take i).map f).flatten:=by
  show (cur.take ((i + 1) * k)++_).take (i * k)=_;rw [List.take_append_of_le_length (by rw [ZR,hc];omega),List.take_take,Zl (by omega)];have h1:(cur.take (xs.length * k)).take (i * k)=((xs.map f).flatten).take (i * k):=by rw [ht]
  rw [List.take_take,Zl (by omega)] at h1;rw [h1]
  conv=>lhs;rw [← YK i xs,ZP,Y9]
  rw [YM (by rw [hml,ZR,Zl hi])]
 have t2:c1.drop (i * k + (f x).length)=((xs.drop i).map f).flatten++cur.drop ((i + 1) * k + ((xs.drop i).map f).flatten.length):=by
  show (cur.take ((i + 1) * k)++_).drop _=_;rw [hfl,← e1,List.drop_left' (by rw [ZR,hc];omega)]
 show (c1.take (i * k)++(f x++c1.drop (i * k + (f x).length))).take _=_;rw [t1,t2,← ZM,← ZM];rw [YM]
 ·rw [ZP,Y9,Zt,Zb,ZM]
 ·rw [Z4,Z4,hml,hfl,hdl];rw [Z4,ZV,ZR,ZK,Zl hi];have:i + (xs.length - i + 1)=xs.length + 1:=by omega
  rw [this,e3];try rw [ZR,Zl hi]
  omega
theorem Mem.afj (hf:r.Flat f){w0 w w':World}{cs:List Chunk}{B E:Nat}{v:Value}{xs:List α}(S:Mem w0 w (.own r B E v xs::cs))(hfl:∀ x,(f x).length=r.size)(hB:B≤w.heap.size)(hgr:w.grownBy w' v.ownBlock)(N cap:Nat)(hN:N=w.heap.size)(cur:Array Value)(hg:w'.heap[N]? =some (.cells cur E (0,0)))(ys:List α)(hc:cur.size=cap * r.size)(ht:cur.toList.take (ys.length * r.size)=(ys.map f).flatten)(hy:ys.length≤cap)(hcm:cap≤maxLen) :
  Mem w0 w' (.own r B E (.slice (some ⟨N,0,none⟩) ys.length cap) ys::cs):=by
 subst hN;have hbl:Below w0.heap.size w w':=(ZX _ w).grown hgr S.b.size (fun k hk=>S.new _ (Y2 ..) k hk);have oH:jK (fun k=>v.ownBlock=some k) w w':=⟨hgr.size,fun k hk hn=>hgr.block k hk (fun e=>hn e.symm)⟩;refine S.upd 0 rfl (.own r B E (.slice (some ⟨w.heap.size,0,none⟩) ys.length cap) ys) oH (S.b.trans hbl) (fun k e=>.inr (Nat.le_of_eq (Option.some.inj e))) ?_;refine ⟨ys.map f,by simp,fun j y l e1 e2=>(hf _ _ _ _).2 ?_,by rw [wW hfl],.inr ⟨w.heap.size,cap,cur,rfl,hB,hg,hy,hcm,hc,ht⟩⟩;rw [ZT,e1] at e2;exact (Option.some.inj e2).symm
theorem afk {k cap i:Nat}{xs:List α}{x:α}(hfl:∀ x,(f x).length=k)(row:List Value)(hc:row.length=cap * k)(hn:xs.length + 1≤cap)(hi:i≤xs.length)(ht:row.take (i * k)=((xs.take i).map f).flatten) :
  let c1:=row.take (i * k)++(f x++row.drop (i * k + (f x).length))
  let c2:=c1.take ((i + 1) * k)++(((xs.drop i).map f).flatten++c1.drop ((i + 1) * k + ((xs.drop i).map f).flatten.length))
  c1.length=cap * k∧c2.length=cap * k∧c2.take ((xs.take i++x::xs.drop i).length * k)=((xs.take i++x::xs.drop i).map f).flatten:=by
 have hml:∀ ys:List α,(ys.map f).flatten.length=ys.length * k:=fun ys=>by
  induction ys with
  | nil=>simp
  | cons y t ih=>rw [Zt,Zb,Z4,hfl,ih,ZV,YV];omega
 have hdl:((xs.drop i).map f).flatten.length=(xs.length - i) * k:=by rw [hml,ZK]
 have e1:(i + 1) * k=i * k + k:=YV i k;have e2:(xs.length - i) * k + i * k=xs.length * k:=by rw [← Nat.add_mul,Nat.sub_add_cancel hi]
 have e3:(xs.length + 1) * k=xs.length * k + k:=YV _ k;have e4:(xs.length + 1) * k≤cap * k:=Nat.mul_le_mul_right k hn;intro c1 c2;have l1:c1.length=cap * k:=by
  show (row.take (i * k)++(f x++row.drop (i * k + (f x).length))).length=_;rw [Z4,Z4,ZR,ZK,hfl,hc];omega
 have l2:c2.length=cap * k:=by
  show (c1.take ((i + 1) * k)++(((xs.drop i).map f).flatten++c1.drop ((i + 1) * k + ((xs.drop i).map f).flatten.length))).length=_;rw [Z4,Z4,ZR,ZK,hdl,l1];omega
 refine ⟨l1,l2,?_⟩;have t1:c1.take ((i + 1) * k)=((xs.take i).map f).flatten++f x:=by
  show (row.take (i * k)++(f x++row.drop (i * k + (f x).length))).take ((i + 1) * k)=_;rw [← ZM,YM (by rw [Z4,ZR,hfl,hc];omega),ht]
 show (c1.take ((i + 1) * k)++_).take _=_;rw [t1,← ZM,YM]
 ·rw [ZP,Y9,Zt,Zb,ZM]
 ·rw [Z4,Z4,hml,hfl,hdl,Z4,ZV,ZR,ZK,Zl hi];have:i + (xs.length - i + 1)=xs.length + 1:=by omega
  rw [this,e3];omega
end
end
section
open Go Go.RowKit
section
variable {ops:Array Oper} {rest:List Oper} {o:Oper} {a:Act} {Q:Exit→Act→World→Prop}
end
theorem MS {w:World}{X:Nat}{x:au}(h:LV w X (fJ x) 48):∀ j u,([x].map au.cells).flatten[j]? =some u→w.cell? ((⟨X,0,none⟩:Addr).add j)=some u:=fun j u hj=>by
 rw [Addr.add_lit,Zh];refine h.cell j u ?_;have e:([x].map au.cells).flatten=(fJ x).toList:=by simp [au.cells]
 rw [e] at hj;simpa using hj
theorem Yc (xs:List au)(i:Nat)(hi:i≤xs.length)(j:Nat)(u:Value)(h:((xs.drop i).map au.cells).flatten[j]? =some u):(xs.map au.cells).flatten[i * 5 + j]? =some u:=by
 have hl:((xs.take i).map au.cells).flatten.length=i * 5:=by
  rw [wW (r:=aY) (fun _=>rfl),ZR,Zl hi];rfl
 conv=>lhs;rw [← YK i xs,ZP,Y9]
 rw [ZF (by omega),hl,Nat.add_sub_cancel_left];exact h
theorem afl (xs:List au)(i cap:Nat)(cur:List Value)(_hc:cur.length=cap * 5)(_hn:xs.length + 1≤cap)(hi:i < xs.length)(ht:cur.take (xs.length * 5)=(xs.map au.cells).flatten) :
  (cur.take ((i + 1) * 5)++(((xs.drop i).map au.cells).flatten++cur.drop ((i + 1) * 5 + ((xs.drop i).map au.cells).flatten.length))).take ((xs.take (i + 1)++xs.drop i).length * 5)=((xs.take (i + 1)++xs.drop i).map au.cells).flatten:=by
 have hml:∀ ys:List au,(ys.map au.cells).flatten.length=ys.length * 5:=fun ys=>wW (r:=aY) (fun _=>rfl) ys;have t1:cur.take ((i + 1) * 5)=((xs.take (i + 1)).map au.cells).flatten:=by
  have h1:(cur.take (xs.length * 5)).take ((i + 1) * 5)=((xs.map au.cells).flatten).take ((i + 1) * 5):=by rw [ht]
  rw [List.take_take,Zl (by omega)] at h1;rw [h1]
  conv=>lhs;rw [← YK (i + 1) xs,ZP,Y9]
  rw [YM (by rw [hml,ZR,Zl (by omega)])]
 rw [t1,← ZM,YM]
 ·rw [ZP,Y9]
 ·rw [Z4,hml,hml,Z4,Nat.add_mul]
def MV (xs:List au)(w0:World)(cs:List Chunk)(B:Nat)(e:Ending)(w':World):Prop:=∃ v',e=.returned v'∧Mem w0 w' (.own aY B 48 v' xs::cs)
theorem afm {w0 w:World}{cs:List Chunk}{B:Nat}{v:Value}{xs:List au}(x:au)(X:Nat)(S:Mem w0 w (.own aY B 48 v xs::.loc X (fJ x) 48::cs))(hB:B≤w.heap.size)(hl:xs.length≤1000) :
  Calls Tryz.prog 67 #[v,.int .i64 xs.length,.slice (some ⟨X,0,none⟩) 1 1] w (MV (xs++[x]) w0 (.loc X (fJ x) 48::cs) B):=by
 have HC:=Z9 (MS (S.lv 1 rfl));have HS:=Z9 S;rcases (S.ow 0 rfl).shape2 with ⟨rfl,rfl⟩ | ⟨g,cap,rfl,hcap⟩
 ·clear S;go_enter Tryz.func67,Tryz.ntmps67
  go_wp2_with (at_builtin;refine HS.out.nJ iZ 0 rfl rV rfl _ _ rfl [x] 1 1 rfl rfl ⟨X,0,none⟩ rfl HC.out (fun y _=>CX y) (fun _=>rfl) hB (by simp) (by decide) ?_;intro v5 w5 S5)
  go_ret;exact ⟨v5,rfl,S5⟩
 ·clear S;obtain ⟨n,hn⟩:∃ n,n=xs.length:=⟨_,rfl⟩;have Hn:=Z9 hn;rw [← hn] at hcap HS hl ⊢;clear hn;go_enter Tryz.func67,Tryz.ntmps67
  go_wp2_with (at_builtin;refine HS.out.nJ iZ 0 rfl rV rfl _ _ rfl [x] 1 1 rfl rfl ⟨X,0,none⟩ rfl HC.out (fun y _=>CX y) (fun _=>rfl) hB (by rw [← Hn.out];simp;omega) (by decide) ?_;intro v5 w5 S5)
  all_goals (go_ret;exact ⟨v5,rfl,S5⟩)
theorem afn {w0 w:World}{cs:List Chunk}{B g n cap:Nat}{xs:List au}(i:Nat)(x:au)(X:Nat)(S:Mem w0 w (.own aY B 48 (.slice (some ⟨g,0,none⟩) n cap) xs::.loc X (fJ x) 48::cs))(hi:i < n)(hn1:n=xs.length)(hl:xs.length≤1000)(hcap:n + 1≤cap) :
  Calls Tryz.prog 67 #[.slice (some ⟨g,0,none⟩) n cap,.int .i64 i,.slice (some ⟨X,0,none⟩) 1 1] w (MV (xs.take i++x::xs.drop i) w0 (.loc X (fJ x) 48::cs) B):=by
 obtain ⟨cur,hg,hna,_,hcm,hcs,htk,_⟩:=(S.ow 0 rfl).QM iZ;have Yd:X≠g:=fun e=>S.apart (i:=0) (j:=1) rfl rfl (by decide) (k:=g) rfl (by subst e;rfl);have hlv:=S.lv 1 rfl;have hov:∀ lb cb,(callFunc 139 #[.slice (some ⟨X,0,none⟩) 1 1,.slice (some ⟨g,(i + 1) * 5,none⟩) lb cb]).run Tryz.prog w=.ok (.value (.bool false)) w:=fun lb cb=>by
  rw [run_callFunc_extern Tryz.func139 (by kernel_rfl) (by kernel_rfl) (by kernel_rfl) (e:=Extern.SlicesOverlaps.overlaps #[38,38] #[4]) (by kernel_rfl),
   Lib.run_overlaps_apart w 38 4 48 rV.under 5 (fun _=>by kernel_rfl) ⟨X,0,none⟩ ⟨g,(i + 1) * 5,none⟩ 1 1 lb cb Yd 48 48 5 cur.size (by unfold World.shape?;rw [hlv];rfl) (by unfold World.shape?;rw [hg]) (by rw [hcs];show cap * 5≠0;omega) (hlv.free 0) (hlv.free 5)]
  rfl
 have HC:=Z9 (MS hlv);have hsz:(Tryz.prog.info? 48).map (·.size)=some 5:=by
  obtain ⟨i0,hi0,h0,h1,h2⟩:=info_parts rV.info;rw [hi0];exact congrArg some h1
 obtain ⟨D,hD⟩:∃ D,((xs.drop i).map au.cells).flatten=D:=⟨_,rfl⟩;have hDl:D.length=(n - i) * 5:=by rw [← hD,wW (r:=aY) (fun _=>rfl),ZK,hn1];rfl
 have hfc:=Sl.Jc iZ (fun _=>rfl) ((S.ow 0 rfl).xR iZ);obtain ⟨c1,hc1⟩:∃ c1:List Value,cur.toList.take ((i + 1) * 5)++(D++cur.toList.drop ((i + 1) * 5 + D.length))=c1:=⟨_,rfl⟩;obtain ⟨c2,hc2⟩:∃ c2:List Value,c1.take (i * 5)++(au.cells x++c1.drop (i * 5 + (au.cells x).length))=c2:=⟨_,rfl⟩;have hcell:=afi (f:=au.cells) (k:=5) (cap:=cap) (i:=i) (xs:=xs) (x:=x) (fun _=>rfl) cur.toList (by rw [Y8];exact hcs) (by omega) (by omega) htk;have hcell1:=afl xs i cap cur.toList (by rw [Y8];exact hcs) (by omega) (by omega) htk;rw [hD] at hcell hcell1;simp only [hc1] at hcell hcell1;rw [hc2] at hcell;obtain ⟨hl1,hl2,ht2⟩:=hcell;have M1:Mem w0 (w.drew.setRow g c1.toArray) (.own aY B 48 (.slice (some ⟨g,0,none⟩) (xs.take (i + 1)++xs.drop i).length cap) (xs.take (i + 1)++xs.drop i)::.loc X (fJ x) 48::cs) :=
  (S.below ((show je w w.drew from rfl).below _)).Yb iZ (fun _=>rfl) c1.toArray _ (by rw [ZC];exact hl1) hcell1 (by rw [Z4,ZR,ZK];omega)
 have M2:Mem w0 ((w.drew.setRow g c1.toArray).setRow g c2.toArray) (.own aY B 48 (.slice (some ⟨g,0,none⟩) (xs.take i++x::xs.drop i).length cap) (xs.take i++x::xs.drop i)::.loc X (fJ x) 48::cs) :=
  M1.Yb iZ (fun _=>rfl) c2.toArray _ (by rw [ZC];exact hl2) ht2 (by rw [Z4,ZR,ZV,ZK];omega)
 have hlen:(xs.take i++x::xs.drop i).length=n + 1:=by rw [Z4,ZR,ZV,ZK];omega
 rw [hlen] at M2;have hmin:Nat.min (n + 1 - i) (n - i)=n - i:=by show min _ _=_;omega
 have FD:Nat.min 1 (n + 1 - i)=1:=by show min _ _=_;omega
 have hcp1:∀ ty dc sc,(Builtin.copy_ #[38,38] ty #[.slice (some ⟨g,(i + 1) * 5,none⟩) (n - i) dc,.slice (some ⟨g,i * 5,none⟩) (n + 1 - i) sc]).run Tryz.prog w.drew=.ok (goInt ((n - i:Nat):Int)) (w.drew.setRow g c1.toArray):=fun ty dc sc=>by
  have h1:=MR w.drew 38 38 ty 48 5 g ((i + 1) * 5) (n - i) dc ⟨g,i * 5,none⟩ (n + 1 - i) sc cur 48 D rV.under hsz hg (by rw [hDl,hmin]) (fun j u hj=>by
   rw [Addr.add_lit];have h2:=hfc (i * 5 + j) u (Yc xs i (by omega) j u (by rw [hD];exact hj));rw [Addr.add_lit,Zh] at h2;exact h2) (by rw [hDl,hcs];show _≤cap * 5;omega) (fun u hu=>by
   rw [← hD] at hu;obtain ⟨l,hl,hu2⟩:=List.mem_flatten.1 hu;obtain ⟨y,_,rfl⟩:=List.mem_map.1 hl;exact CX y u hu2)
  rw [ZM,hc1,hmin] at h1;exact h1
 have hg1:(w.drew.setRow g c1.toArray).heap[g]? =some (.cells c1.toArray 48 (0,0)):=setRow_heap w.drew g cur c1.toArray 48 (0,0) hg;have hlv1:=M1.lv 1 rfl;have hcp2:∀ ty dc,(Builtin.copy_ #[38,38] ty #[.slice (some ⟨g,i * 5,none⟩) (n + 1 - i) dc,.slice (some ⟨X,0,none⟩) 1 1]).run Tryz.prog (w.drew.setRow g c1.toArray)=.ok (goInt ((1:Nat):Int)) ((w.drew.setRow g c1.toArray).setRow g c2.toArray):=fun ty dc=>by
  have h1:=MR (w.drew.setRow g c1.toArray) 38 38 ty 48 5 g (i * 5) (n + 1 - i) dc ⟨X,0,none⟩ 1 1 c1.toArray 48 (au.cells x) rV.under hsz hg1 (by rw [FD];rfl) (fun j u hj=>MS hlv1 j u (by simpa using hj)) (by show i * 5 + 5≤c1.toArray.size;rw [ZC,hl1];omega) (CX x);rw [ZM] at h1;simp only at h1;rw [hc2,FD] at h1;exact h1
 have HM:=Z9 M2;have hw1:IntKind.i64.wrap ((n:Int) + 1)=((n + 1:Nat):Int):=by rw [Zc];omega
 have hw2:IntKind.i64.wrap ((i:Int) + 1)=((i + 1:Nat):Int):=by rw [Zc];omega
 have hne:((i:Int)==(n:Int))=false:=by simpa using (by omega:(i:Int)≠n)
 have hgt:(decide ((cap:Int) < ((n + 1:Nat):Int)))=false:=by rw [decide_eq_false_iff_not];omega
 have hgt2:(decide ((cap:Int) < (n:Int) + 1))=false:=by rw [decide_eq_false_iff_not];omega
 have alM:¬ (cap=i + 1):=by omega
 have alN:¬ (cap=i):=by omega
 have hw3:IntKind.i64.wrap ((i:Int) + 1)=(i:Int) + 1:=by rw [Zc];omega
 have hb1:(0:Int)≤(i:Int) + 1:=by omega
 have htn:((i:Int) + 1).toNat=i + 1:=by omega
 have hb3:(i:Int)≤(n:Int) + 1:=by omega
 have hin:i≤n:=by omega
 have mixed:Tryz.prog.follows .mixedOrders=true:=by kernel_rfl
 unfold maxLen at hcm;have Hn:=Z9 hn1;clear hn1 hna;clear S hg htk Yd hlv HC hfc hc1 hc2 hcell1 hl1 hl2 ht2 M1 M2 hg1 hlv1 hDl hD hsz hlen hcs;go_enter Tryz.func67,Tryz.ntmps67
 go_wp2_with (simp only [hov])
 go_region_law_o (refine step_copy_runI rfl _ _ 38 38 rfl _ _ (by simp [Act.eval,Act.put]) (by simp [Act.eval,Act.put]) (hcp1 _ _ _) ?_)
 go_wp2_with (at_builtin;refine wpList_copy_runI _ rfl _ _ 38 38 rfl _ _ rfl rfl (hcp2 _ _) ?_)
 go_ret;exact ⟨_,rfl,HM.out⟩
theorem afo (xs:List au)(i:Nat)(j:Nat)(u:Value)(h:((xs.take i).map au.cells).flatten[j]? =some u):(xs.map au.cells).flatten[j]? =some u:=by
 conv=>lhs;rw [← YK i xs,ZP,Y9]
 rw [Zy (List.getElem?_eq_some_iff.1 h).1];exact h
theorem afp {w0 w:World}{cs:List Chunk}{B g n cap:Nat}{xs:List au}(i:Nat)(x:au)(X:Nat)(S:Mem w0 w (.own aY B 48 (.slice (some ⟨g,0,none⟩) n cap) xs::.loc X (fJ x) 48::cs))(hB:B≤w.heap.size)(hi:i < n)(hn1:n=xs.length)(hl:xs.length≤1000)(hcap:cap < n + 1) :
  Calls Tryz.prog 67 #[.slice (some ⟨g,0,none⟩) n cap,.int .i64 i,.slice (some ⟨X,0,none⟩) 1 1] w (MV (xs.take i++x::xs.drop i) w0 (.loc X (fJ x) 48::cs) B):=by
 obtain ⟨cur,hg,hna,hnc,hcm,hcs,htk,_⟩:=(S.ow 0 rfl).QM iZ;have hlv:=S.lv 1 rfl;obtain ⟨i0,hi0,hz0,hzs,hzb⟩:=info_parts rV.info;have hsz:(Tryz.prog.info? 48).map (·.size)=some 5:=by rw [hi0];exact congrArg some hzs
 obtain ⟨N,hN⟩:∃ N,N=w.heap.size:=⟨_,rfl⟩;have hgN:g≠N:=by rw [hN];have:=(Array.getElem?_eq_some_iff.1 hg).1;omega
 have hXN:X≠N:=by rw [hN];have:=(S.ge 1 rfl).2;omega
 obtain ⟨D,hD⟩:∃ D,((xs.drop i).map au.cells).flatten=D:=⟨_,rfl⟩;have hDl:D.length=(n - i) * 5:=by rw [← hD,wW (r:=aY) (fun _=>rfl),ZK,hn1];rfl
 obtain ⟨O,hO⟩:∃ O,((xs.take i).map au.cells).flatten=O:=⟨_,rfl⟩;have Ad:O.length=i * 5:=by rw [← hO,wW (r:=aY) (fun _=>rfl),ZR,Zl (by omega)];rfl
 have hfc:=Sl.Jc iZ (fun _=>rfl) ((S.ow 0 rfl).xR iZ);have hold:(Builtin.firstCells i0.size i (.slice (some ⟨g,0,none⟩) i cap)).run Tryz.prog w.drew=.ok O.toArray w.drew:=by
  rw [hzs];exact run_firstCells_some w.drew _ i ⟨g,0,none⟩ i cap O Ad (fun j u hj=>hfc j u (afo xs i j u (by rw [hO];exact hj)))
 have hik:i + (n + 1 - i)=n + 1:=by omega
 have hkk:(n:Int) + 1 - (i:Int)=((n + 1 - i:Nat):Int):=by omega
 obtain ⟨G,hG⟩:∃ G,G=grownCap w (n + 1) cap 48:=⟨_,rfl⟩;have hGn:n + 1≤G:=by rw [hG];exact grownCap_ge w _ _ _
 have Ye:G≤maxLen:=by rw [hG];exact grownCap_le_maxLen w (n + 1) cap _ (by unfold maxLen;omega)
 obtain ⟨ROW,hROW⟩:∃ ROW:Array Value,ROW=O.toArray++Builtin.zeroCells (Value.agg #[.int .i64 0,.string ⟨#[]⟩,.int .i64 0,.string ⟨#[]⟩,.int .i64 0]).cells (n + 1 - i)++Builtin.zeroCells (Value.agg #[.int .i64 0,.string ⟨#[]⟩,.int .i64 0,.string ⟨#[]⟩,.int .i64 0]).cells (G - (n + 1)):=⟨_,rfl⟩;have hRl:ROW.toList.length=G * 5:=by
  rw [Y8,hROW,Array.size_append,Array.size_append,size_zeroCells,size_zeroCells,ZC,Ad,rV.yA];show i * 5 + (n + 1 - i) * 5 + (G - (n + 1)) * 5=G * 5;omega
 have Yf:ROW.toList.take (i * 5)=((xs.take i).map au.cells).flatten:=by
  rw [hROW,Array.toList_append,Array.toList_append,ZM,YM (show O.length=i * 5 from Ad),hO]
 obtain ⟨W1,hW1⟩:∃ W1,W1=w.drew.alloc (.cells ROW 48):=⟨_,rfl⟩;have hrz:∀ ty,(Builtin.append_ #[38,3] ty #[.slice (some ⟨g,0,none⟩) i cap,.int .i64 ((n:Int) + 1 - (i:Int))]).run Tryz.prog w=.ok (.slice (some ⟨N,0,none⟩) (n + 1) G) W1:=fun ty=>by
  have h:=Lib.run_append_grow_zeros w 38 3 ty 48 i0 _ .i64 .i64 rV.under (by kernel_rfl) hi0 hz0 (some ⟨g,0,none⟩) i cap O hold (n + 1 - i) (by omega) (by rw [hzs];exact rV.pos) (by omega) (by omega) (by rw [hzb];omega) (by rw [hzb,hik];exact growslice_fits (by omega) (by omega));rw [hik,← hG,← hROW,← hW1,← hN] at h;rw [hkk];exact h
 have QN:W1.heap[N]? =some (.cells ROW 48 (0,0)):=by rw [hW1,hN];show (w.heap.push _)[w.heap.size]? =_;simp
 have MW:∀ k,k < w.heap.size→W1.heap[k]? =w.heap[k]? :=fun k hk=>by rw [hW1];exact Below.heap_alloc (w:=w.drew) _ _ hk
 obtain ⟨c1,hc1⟩:∃ c1:List Value,ROW.toList.take (i * 5)++(au.cells x++ROW.toList.drop (i * 5 + (au.cells x).length))=c1:=⟨_,rfl⟩;obtain ⟨c2,hc2⟩:∃ c2:List Value,c1.take ((i + 1) * 5)++(D++c1.drop ((i + 1) * 5 + D.length))=c2:=⟨_,rfl⟩;have hcell:=afk (f:=au.cells) (k:=5) (cap:=G) (i:=i) (xs:=xs) (x:=x) (fun _=>rfl) ROW.toList hRl (by omega) (by omega) Yf;rw [hD] at hcell;simp only [hc1] at hcell;rw [hc2] at hcell;obtain ⟨hl1,hl2,ht2⟩:=hcell;have hmin:Nat.min (n - i) (n - i)=n - i:=Nat.min_self _;have FD:Nat.min 1 (n + 1 - i)=1:=by show min _ _=_;omega
 have cellW:∀ (W:World) (k j:Nat) (u:Value),W.heap[k]? =w.heap[k]?→w.cell? ((⟨k,0,none⟩:Addr).add j)=some u→W.cell? ((⟨k,0,none⟩:Addr).add j)=some u:=fun W k j u e h=>by
  rw [Addr.add_lit] at h ⊢;unfold World.cell? at h ⊢;rw [e];exact h
 have hgw:g < w.heap.size:=(Array.getElem?_eq_some_iff.1 hg).1;have QL:X < w.heap.size:=(S.ge 1 rfl).2;have hcpA:∀ ty dc,(Builtin.copy_ #[38,38] ty #[.slice (some ⟨N,i * 5,none⟩) (n + 1 - i) dc,.slice (some ⟨X,0,none⟩) 1 1]).run Tryz.prog W1=.ok (goInt ((1:Nat):Int)) (W1.setRow N c1.toArray):=fun ty dc=>by
  have h1:=MR W1 38 38 ty 48 5 N (i * 5) (n + 1 - i) dc ⟨X,0,none⟩ 1 1 ROW 48 (au.cells x) rV.under hsz QN (by rw [FD];rfl) (fun j u hj=>cellW W1 X j u (MW X QL) (MS hlv j u (by simpa using hj))) (by show i * 5 + 5≤ROW.size;rw [← Y8,hRl];omega) (CX x);rw [ZM,hc1,FD] at h1;exact h1
 have QO:(W1.setRow N c1.toArray).drew.heap[N]? =some (.cells c1.toArray 48 (0,0)):=setRow_heap W1 N ROW c1.toArray 48 (0,0) QN;have Yg:(W1.setRow N c1.toArray).drew.heap[g]? =w.heap[g]? :=(setRow_other W1 N g c1.toArray hgN).trans (MW g hgw);have hcpB:∀ ty dc sc,(Builtin.copy_ #[38,38] ty #[.slice (some ⟨N,(i + 1) * 5,none⟩) (n - i) dc,.slice (some ⟨g,i * 5,none⟩) (n - i) sc]).run Tryz.prog (W1.setRow N c1.toArray).drew=.ok (goInt ((n - i:Nat):Int)) ((W1.setRow N c1.toArray).drew.setRow N c2.toArray):=fun ty dc sc=>by
  have h1:=MR (W1.setRow N c1.toArray).drew 38 38 ty 48 5 N ((i + 1) * 5) (n - i) dc ⟨g,i * 5,none⟩ (n - i) sc c1.toArray 48 D rV.under hsz QO (by rw [hDl,hmin]) (fun j u hj=>by
   have h2:=cellW (W1.setRow N c1.toArray).drew g (i * 5 + j) u Yg (hfc (i * 5 + j) u (Yc xs i (by omega) j u (by rw [hD];exact hj)));rw [Addr.add_lit,Zh] at h2;rw [Addr.add_lit];exact h2) (by rw [hDl,ZC,hl1];omega) (fun u hu=>by
   rw [← hD] at hu;obtain ⟨l,hl,hu2⟩:=List.mem_flatten.1 hu;obtain ⟨y,_,rfl⟩:=List.mem_map.1 hl;exact CX y u hu2)
  rw [ZM,hmin] at h1;simp only at h1;rw [hc2] at h1;exact h1
 have M2:Mem w0 ((W1.setRow N c1.toArray).drew.setRow N c2.toArray) (.own aY B 48 (.slice (some ⟨N,0,none⟩) (xs.take i++x::xs.drop i).length G) (xs.take i++x::xs.drop i)::.loc X (fJ x) 48::cs) :=
  S.afj iZ (fun _=>rfl) hB ⟨by rw [hW1];rfl,by rw [hW1];rfl,by rw [hW1];rfl,by
   have hs:∀ (W:World) (k:Nat) (c:Array Value),(W.setRow k c).heap.size=W.heap.size:=fun _ _ _=>by simp [World.setRow]
   have h1:W1.heap.size=w.heap.size + 1:=by rw [hW1];exact uU _ _
   rw [hs];show w.heap.size≤(W1.setRow N c1.toArray).heap.size;rw [hs,h1];omega,fun k hk _=>by
   have e:k≠N:=by omega
   exact ((setRow_other (W1.setRow N c1.toArray).drew N k c2.toArray e).trans (setRow_other W1 N k c1.toArray e)).trans (MW k hk)⟩ N G hN c2.toArray (setRow_heap (W1.setRow N c1.toArray).drew N c1.toArray c2.toArray 48 (0,0) QO) _ (by rw [ZC];exact hl2) ht2 (by rw [Z4,ZR,ZV,ZK];omega) Ye
 have hlen:(xs.take i++x::xs.drop i).length=n + 1:=by rw [Z4,ZR,ZV,ZK];omega
 rw [hlen] at M2;have HM:=Z9 M2;have hw1:IntKind.i64.wrap ((n:Int) + 1)=(n:Int) + 1:=by rw [Zc];omega
 have hw3:IntKind.i64.wrap ((i:Int) + 1)=(i:Int) + 1:=by rw [Zc];omega
 have hne:((i:Int)==(n:Int))=false:=by simpa using (by omega:(i:Int)≠n)
 have hz3:(cap:Int) < (n:Int) + 1:=by omega
 have hGi:¬ (G=i):=by omega
 have hGim:¬ (G=i + 1):=by omega
 have hci:¬ (cap=i):=by omega
 have hb1:(0:Int)≤(i:Int) + 1:=by omega
 have htn:((i:Int) + 1).toNat=i + 1:=by omega
 have hb3:(i:Int)≤(n:Int) + 1:=by omega
 have hb4:(i:Int)≤(n:Int):=by omega
 have hin:i≤n:=by omega
 have mixed:Tryz.prog.follows .mixedOrders=true:=by kernel_rfl
 unfold maxLen at hcm Ye;have Hn:=Z9 hn1;clear S hg htk hlv hfc hc1 hc2 hl1 hl2 ht2 M2 hDl hD hsz hlen hcs hn1 hna hold hik hkk hG hROW hRl Yf QN MW hW1 hN hO Ad hi0 hz0 hzs hzb QO Yg cellW hmin FD hgN hXN hgw QL;go_enter Tryz.func67,Tryz.ntmps67
 go_wp2_with (first
  | (at_builtin;refine Lib.wpList_append_run _ rfl _ _ _ _ rfl _ _ rfl rfl _ _ (hrz _) ?_)
  | (at_builtin;refine wpList_copy_runI _ rfl _ _ 38 38 rfl _ _ rfl rfl (hcpA _ _) ?_))
 go_region_law_o (refine step_copy_runI rfl _ _ 38 38 rfl _ _ (by simp [Act.eval,Act.put]) (by simp [Act.eval,Act.put]) (hcpB _ _ _) ?_)
 go_wp2
 go_ret;exact ⟨_,rfl,HM.out⟩
theorem adO {w0 w:World}{cs:List Chunk}{B:Nat}{v:Value}{xs:List au}(i:Nat)(x:au)(X:Nat)(S:Mem w0 w (.own aY B 48 v xs::.loc X (fJ x) 48::cs))(hB:B≤w.heap.size)(hl:xs.length≤1000)(hi:i≤xs.length) :
  Calls Tryz.prog 67 #[v,.int .i64 i,.slice (some ⟨X,0,none⟩) 1 1] w (MV (xs.take i++x::xs.drop i) w0 (.loc X (fJ x) 48::cs) B):=by
 by_cases he:i=xs.length
 ·subst he;have h:=afm x X S hB hl;rw [Zp,List.drop_length];exact h
 ·rcases (S.ow 0 rfl).shape2 with ⟨rfl,rfl⟩ | ⟨g,cap,rfl,hcap⟩
  ·exact absurd hi (by simp at he ⊢;omega)
  ·by_cases hc:cap < xs.length + 1
   ·exact afp i x X S hB (by omega) rfl hl hc
   ·exact afn i x X S (by omega) rfl hl (by omega)
end
end Go.Proofs.YtmkkppknaikjjaaGreatDoor
