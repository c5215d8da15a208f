/- Several texts in one: Tchq, IdSort, RevId, GenIds, GenTch. -/
import Derived.Test.YtmkkppknaikjjaaGreatDoorPackC
import Derived.Test.YtmkkppknaikjjaaGreatDoorSf
import Derived.Test.YtmkkppknaikjjaaGreatDoorPackZ
/- Touches in memory that may still be turned: their rows, and apart from them their ids and fields, which stay. -/
set_option maxHeartbeats 8000000
set_option maxRecDepth 100000
open Go.Lib renaming hid→Z9
open List renaming getElem?_eq_getElem→Z8, mem_of_getElem?→Z7, getElem?_set_self→ZY, length_set→ZU, getElem?_map→ZT, set_set→ZB, mem_cons→YU, not_mem_nil→YI
open Nat renaming le_refl→Z5, zero_le→ZN, le_trans→ZE
open Int renaming eq_ofNat_of_zero_le→Zi
namespace Go.Proofs.YtmkkppknaikjjaaGreatDoor
section
open Go Go.RowKit
structure TQ where
 t:ak
 A:Option Addr
 c:Nat
 B:Option Addr
 d:Nat
def TQ.cells (q:TQ):List Value:=[.int .i64 q.t.no,.int .i64 q.t.at',.string q.t.src,.slice q.A q.t.ids.length q.c,.slice q.B q.t.aB.length q.d]
def lX:Rep TQ:=.flat 5 TQ.cells (fun _=>rfl)
theorem sK:lX.Flat TQ.cells:=fun _ _ _ _=>Iff.rfl
theorem Ti:kF 30 58 lX.size 80 (.agg #[.int .i64 0,.int .i64 0,.string ⟨#[]⟩,.slice none 0 0,.slice none 0 0]):=⟨Tryz.underlying30,by kernel_rfl,rfl,by decide⟩
theorem Tj (q:TQ):∀ u∈q.cells,u.oneCell'=true:=fun u hu=>by
 simp only [TQ.cells,YU,YI,or_false] at hu;rcases hu with rfl | rfl | rfl | rfl | rfl <;> rfl
def Tm (M:Nat→Prop)(w:World)(qs:List TQ):Prop:=∀ q∈qs,Sl aO M w q.A q.t.ids∧Sl bK M w q.B q.t.aB
def Chunk.jL (qs:List TQ):Chunk :=
 ⟨none,fun M w=>Tm M w qs,fun k hd _ h q hq=>⟨(h q hq).1.keep (k.mono hd),(h q hq).2.keep (k.mono hd)⟩,fun hm h q hq=>⟨(h q hq).1.mono (fun k hk e=>(hm k hk e).resolve_right (by simp)),(h q hq).2.mono (fun k hk e=>(hm k hk e).resolve_right (by simp))⟩,fun _ _ e=>by cases e⟩
section
variable {b m:Nat} {w0 w:World} {cs:List Chunk}
theorem St.td (S:St b m w0 w cs)(i:Nat){qs:List TQ}(hi:cs[i]? =some (.jL qs)):Tm (bT w0.heap.size cs) w qs:=S.ok _ (Z7 hi)
theorem St.J5 (S:St b m w0 w cs)(i j l:Nat){qs:List TQ}{A B:Option Addr}{xs:List ah}{fs:List aQ}(hi:cs[i]? =some (.jL qs))(hj:cs[j]? =some (.sl aO A xs))(hl:cs[l]? =some (.sl bK B fs))(x:TQ)(hA:x.A=A)(hx:x.t.ids=xs)(hB:x.B=B)(hf:x.t.aB=fs):St b m w0 w (cs.set i (.jL (qs++[x]))):=by
 refine S.turn i hi (.jL (qs++[x])) rfl (fun q hq=>?_);rcases List.mem_append.1 hq with hq | hq
 ·exact S.td i hi q hq
 ·rw [List.mem_singleton.1 hq,hA,hx,hB,hf];exact ⟨S.slc j hj,S.slc l hl⟩
theorem St.ahD (S:St b m w0 w cs)(i:Nat){qs Tn:List TQ}(hi:cs[i]? =some (.jL qs))(hs:∀ q∈Tn,q∈qs):St b m w0 w (cs.set i (.jL Tn)):=S.turn i hi (.jL Tn) rfl (fun q hq=>S.td i hi q (hs q hq))
end
theorem ahE {N:Nat→Prop}{w:World}{A:Option Addr}{qs:List TQ}(h:Sl lX N w A qs)(hf:Tm N w qs):Sl fU N w A (qs.map TQ.t):=fun i x hx=>by
 rw [ZT] at hx;cases hq:qs[i]? with
 | none=>rw [hq] at hx;cases hx
 | some y =>
  rw [hq] at hx;obtain rfl:y.t=x:=by simpa using hx
  obtain ⟨blk,off,l,e1,h1,h2,h3,h4⟩:=h i y hq;obtain rfl:l=TQ.cells y:=h3;have hy:=hf y (Z7 hq);exact ⟨blk,off,_,e1,h1,h2,afN (c:=y.c) (d:=y.d) hy.1 hy.2,h4⟩
theorem St.Jv {b m:Nat}{w0 w:World}{cs:List Chunk}(S:St b m w0 w cs)(i j:Nat){A:Option Addr}{qs:List TQ}(hi:cs[i]? =some (.sl lX A qs))(hj:cs[j]? =some (.jL qs)):St b m w0 w (cs.set i (.sl fU A (qs.map TQ.t))) :=
 S.turn i hi (.sl fU A (qs.map TQ.t)) rfl (ahE (S.slc i hi) (S.td j hj))
theorem Own.FY {M:Nat→Prop}{B E g n cap:Nat}{w:World}{xs:List TQ}(h:Own lX M B E w (.slice (some ⟨g,0,none⟩) n cap) xs)(hn:n=xs.length)(k:Nat)(x:TQ)(hk:xs[k]? =some x) :
  (w.cell? ⟨g,k * 5,none⟩=some (.int .i64 x.t.no)∧w.cell? ⟨g,k * 5 + 1,none⟩=some (.int .i64 x.t.at')∧w.cell? ⟨g,k * 5 + 2,none⟩=some (.string x.t.src)∧w.cell? ⟨g,k * 5 + 3,none⟩=some (.slice x.A x.t.ids.length x.c)∧w.cell? ⟨g,k * 5 + 4,none⟩=some (.slice x.B x.t.aB.length x.d)) ∧
  ∀ j,j < 5→w.frozen? ⟨g,k * 5 + j,none⟩=false :=
 ⟨⟨(h.cellP sK hn k x hk 0 _ rfl).1,(h.cellP sK hn k x hk 1 _ rfl).1,(h.cellP sK hn k x hk 2 _ rfl).1,(h.cellP sK hn k x hk 3 _ rfl).1,(h.cellP sK hn k x hk 4 _ rfl).1⟩,fun j hj=>by
  obtain ⟨u,hu⟩:∃ u,(TQ.cells x)[j]? =some u:=⟨_,Z8 hj⟩;exact (h.cellP sK hn k x hk j u hu).2⟩
theorem St.aaV {b m:Nat}{w0 w:World}{cs:List Chunk}(S:St b m w0 w cs)(i:Nat){B E g n cap:Nat}{ys:List TQ}(hi:cs[i]? =some (.own lX B E (.slice (some ⟨g,0,none⟩) n cap) ys))(hn:n=ys.length)(p:Nat)(z x:TQ)(hz:ys[p]? =some z) :
  St b m w0 (((((w.setCell ⟨g,p * 5,none⟩ (.int .i64 x.t.no)).setCell ⟨g,p * 5 + 1,none⟩ (.int .i64 x.t.at')).setCell ⟨g,p * 5 + 2,none⟩ (.string x.t.src)).setCell ⟨g,p * 5 + 3,none⟩ (.slice x.A x.t.ids.length x.c)).setCell ⟨g,p * 5 + 4,none⟩ (.slice x.B x.t.aB.length x.d)) (cs.set i (.own lX B E (.slice (some ⟨g,0,none⟩) n cap) (ys.set p x))):=by
 have hp:=bM hz;have hci:i < cs.length:=bM hi;have S1:=S.put sK i hi hn p z (⟨⟨x.t.no,z.t.at',z.t.src,z.t.ids,z.t.aB⟩,z.A,z.c,z.B,z.d⟩:TQ) hz 0 (by decide) (.int .i64 x.t.no) rfl;have S2:=S1.put sK i (by rw [ZY hci]) (by rw [ZU];exact hn) p (⟨⟨x.t.no,z.t.at',z.t.src,z.t.ids,z.t.aB⟩,z.A,z.c,z.B,z.d⟩:TQ) (⟨⟨x.t.no,x.t.at',z.t.src,z.t.ids,z.t.aB⟩,z.A,z.c,z.B,z.d⟩:TQ) (by rw [ZY hp]) 1 (by decide) (.int .i64 x.t.at') rfl;simp only [ZB] at S2;have S3:=S2.put sK i (by rw [ZY hci]) (by rw [ZU];exact hn) p (⟨⟨x.t.no,x.t.at',z.t.src,z.t.ids,z.t.aB⟩,z.A,z.c,z.B,z.d⟩:TQ) (⟨⟨x.t.no,x.t.at',x.t.src,z.t.ids,z.t.aB⟩,z.A,z.c,z.B,z.d⟩:TQ) (by rw [ZY hp]) 2 (by decide) (.string x.t.src) rfl;simp only [ZB] at S3;have S4:=S3.put sK i (by rw [ZY hci]) (by rw [ZU];exact hn) p (⟨⟨x.t.no,x.t.at',x.t.src,z.t.ids,z.t.aB⟩,z.A,z.c,z.B,z.d⟩:TQ) (⟨⟨x.t.no,x.t.at',x.t.src,x.t.ids,z.t.aB⟩,x.A,x.c,z.B,z.d⟩:TQ) (by rw [ZY hp]) 3 (by decide) (.slice x.A x.t.ids.length x.c) rfl;simp only [ZB] at S4;have S5:=S4.put sK i (by rw [ZY hci]) (by rw [ZU];exact hn) p (⟨⟨x.t.no,x.t.at',x.t.src,x.t.ids,z.t.aB⟩,x.A,x.c,z.B,z.d⟩:TQ) x (by rw [ZY hp]) 4 (by decide) (.slice x.B x.t.aB.length x.d) rfl;simp only [ZB] at S5;exact S5
end
section
open Go Go.RowKit Go.Sort Go.Shelf
theorem Bf (x:ah):∀ u∈x.cells,u.oneCell'=true:=fun u hu=>by
 simp only [ah.cells,YU,YI,or_false] at hu;rcases hu with rfl | rfl <;> rfl
theorem ahF {w0 w:World}{cs:List Chunk}(S:Mem w0 w cs)(i:Nat){B:Nat}{v:Value}{xs:List ah}(hi:cs[i]? =some (.own aO B 46 v xs))(hl:xs.length≤1000000) :
  Calls Tryz.prog 77 #[v,.func (.func 116) #[] #[]] w (Ij aO dA w0 cs i B 46 v xs) :=
 haveI:Inhabited ah:=⟨⟨0,⟨#[]⟩⟩⟩
 LM jg (by decide) (fun _=>rfl) Bf Tryz.laysSf77 Tryz.isAgg46 Tryz.sizeOf46 (fun _=>True) dA dA nS (fun _ _=>Iff.rfl) 116 (enters_of Tryz.func116 (by kernel_rfl) rfl) (fun a b _ _ w=>ahG a.k b.k a.t b.t w) S i hi (fun _ _=>trivial) hl
theorem aaW {w0 w:World}{cs:List Chunk}(S:Mem w0 w cs)(i:Nat){B:Nat}{v:Value}{xs:List ah}(hi:cs[i]? =some (.own aO B 46 v xs))(hl:xs.length≤1000000) :
  Calls Tryz.prog 77 #[v,.func (.func 78) #[] #[]] w (Ij aO dA w0 cs i B 46 v xs) :=
 haveI:Inhabited ah:=⟨⟨0,⟨#[]⟩⟩⟩
 LM jg (by decide) (fun _=>rfl) Bf Tryz.laysSf77 Tryz.isAgg46 Tryz.sizeOf46 (fun _=>True) dA dA nS (fun _ _=>Iff.rfl) 78 (enters_of Tryz.func78 (by kernel_rfl) rfl) (fun a b _ _ w=>ahH a.k b.k a.t b.t w) S i hi (fun _ _=>trivial) hl
end
section
open Go Go.RowKit
theorem ahI {b m:Nat}{w0 w:World}{cs:List Chunk}{B g cap:Nat}{xs:List ah}(h1:1≤xs.length)(h3:xs.length≤1000000)(S:St b m w0 w (.own aO B 46 (.slice (some ⟨g,0,none⟩) xs.length cap) xs::cs)) :
  Calls Tryz.prog 141 #[.slice (some ⟨g,0,none⟩) xs.length cap] w fun e w'=>e=.returned (.tuple #[])∧∃ ys:List ah,ys.length=xs.length∧(∀ y∈ys,y∈xs)∧St b m w0 w' (.own aO B 46 (.slice (some ⟨g,0,none⟩) xs.length cap) ys::cs):=by
 obtain ⟨n,hn⟩:∃ n,n=xs.length:=⟨_,rfl⟩;rw [← hn] at h1 h3 S ⊢;have Hn:=Z9 hn;clear hn;go_enter Tryz.func141,Tryz.ntmps141
 go_wp2_with fail
 go_loopw [2,3] (fun i j wr=>∃ (k:Nat) (z:Int) (ys:List ah),k≤n∧i=.int .i64 k∧j=.int .i64 z∧Hid (z=(n:Int) - 1 - k)∧Hid (ys.length=n)∧Hid (∀ y∈ys,y∈xs)∧St b m w0 wr (.own aO B 46 (.slice (some ⟨g,0,none⟩) n cap) ys::cs)) (fun i _ _=>n - (intOf i).toNat)
 case atStart=>exact ⟨0,(n:Int) - 1,xs,ZN _,rfl,by go_num,by show _=_;omega,Hn.out.symm,fun y h=>h,S⟩
 case round =>
  clear S;obtain ⟨k,z,ys,hk,rfl,rfl,HZ,Tq,S⟩:=hrel;obtain ⟨HY,S⟩:=S;have hz:=HZ.out;have hy:=Tq.out;by_cases hlt:(k:Int) < z
  ·obtain ⟨q,hq⟩:∃ q:Nat,z=(q:Int):=⟨n - 1 - k,by omega⟩;subst hq;obtain ⟨x,hx⟩:∃ x,ys[k]? =some x:=⟨_,Z8 (by omega)⟩;obtain ⟨y,hyq⟩:∃ y,ys[q]? =some y:=⟨_,Z8 (by omega)⟩;have a0:=Own.cellP jg (S.ow 0 rfl) hy.symm k x hx 0 (.int .i64 x.k) rfl;have a1:=Own.cellP jg (S.ow 0 rfl) hy.symm k x hx 1 (.string x.t) rfl;have b0:=Own.cellP jg (S.ow 0 rfl) hy.symm q y hyq 0 (.int .i64 y.k) rfl;have b1:=Own.cellP jg (S.ow 0 rfl) hy.symm q y hyq 1 (.string y.t) rfl;have c0:wr.cell? ⟨g,k * 2,none⟩=some (.int .i64 x.k):=a0.1;have c1:wr.cell? ⟨g,k * 2 + 1,none⟩=some (.string x.t):=a1.1;have c2:wr.cell? ⟨g,q * 2,none⟩=some (.int .i64 y.k):=b0.1;have c3:wr.cell? ⟨g,q * 2 + 1,none⟩=some (.string y.t):=b1.1;have f0:wr.frozen? ⟨g,k * 2,none⟩=false:=a0.2;have f1:wr.frozen? ⟨g,k * 2 + 1,none⟩=false:=a1.2;have f2:wr.frozen? ⟨g,q * 2,none⟩=false:=b0.2;have f3:wr.frozen? ⟨g,q * 2 + 1,none⟩=false:=b1.2;have hlt2:(q:Int) < n:=by omega
   have hlt3:(k:Int) < n:=by omega
   clear hz hy;have HS:=Z9 S;have Hx:=Z9 hx;have Hyq:=Z9 hyq;clear a0 a1 b0 b1 S hx hyq;go_wp2_with fail
   go_region
   go_wp2_with fail
   go_roundw
   case rel =>
    have hkq:k≠q:=by have h:=HZ.out;omega
    have hyl:=Tq.out;have S1:St b m w0 (wr.setCell ⟨g,k * 2,none⟩ (.int .i64 y.k)) (.own aO B 46 (.slice (some ⟨g,0,none⟩) n cap) (ys.set k ⟨y.k,x.t⟩)::cs):=HS.out.put jg 0 rfl hyl.symm k x ⟨y.k,x.t⟩ Hx.out 0 (by decide) (.int .i64 y.k) rfl;have S2:St b m w0 ((wr.setCell ⟨g,k * 2,none⟩ (.int .i64 y.k)).setCell ⟨g,k * 2 + 1,none⟩ (.string y.t)) (.own aO B 46 (.slice (some ⟨g,0,none⟩) n cap) (ys.set k y)::cs):=by
     have:=S1.put jg 0 rfl (by rw [ZU];exact hyl.symm) k ⟨y.k,x.t⟩ y (by rw [ZY (by omega)]) 1 (by decide) (.string y.t) rfl
     rw [ZB] at this;exact this
    have S3:St b m w0 (((wr.setCell ⟨g,k * 2,none⟩ (.int .i64 y.k)).setCell ⟨g,k * 2 + 1,none⟩ (.string y.t)).setCell ⟨g,q * 2,none⟩ (.int .i64 x.k)) (.own aO B 46 (.slice (some ⟨g,0,none⟩) n cap) ((ys.set k y).set q ⟨x.k,y.t⟩)::cs):=S2.put jg 0 rfl (by rw [ZU];exact hyl.symm) q y ⟨x.k,y.t⟩ (by rw [List.getElem?_set_ne hkq];exact Hyq.out) 0 (by decide) (.int .i64 x.k) rfl;have S4:St b m w0 ((((wr.setCell ⟨g,k * 2,none⟩ (.int .i64 y.k)).setCell ⟨g,k * 2 + 1,none⟩ (.string y.t)).setCell ⟨g,q * 2,none⟩ (.int .i64 x.k)).setCell ⟨g,q * 2 + 1,none⟩ (.string x.t)) (.own aO B 46 (.slice (some ⟨g,0,none⟩) n cap) ((ys.set k y).set q x)::cs):=by
     have:=S3.put jg 0 rfl (by rw [ZU,ZU];exact hyl.symm) q ⟨x.k,y.t⟩ x (by rw [ZY (by rw [ZU];omega)]) 1 (by decide) (.string x.t) rfl
     rw [ZB] at this;exact this
    have hd:je ((((wr.setCell ⟨g,k * 2,none⟩ (.int .i64 y.k)).setCell ⟨g,k * 2 + 1,none⟩ (.string y.t)).setCell ⟨g,q * 2,none⟩ (.int .i64 x.k)).setCell ⟨g,q * 2 + 1,none⟩ (.string x.t)) _:=rfl;refine ⟨k + 1,(q:Int) - 1,(ys.set k y).set q x,by omega,by go_num,rfl,(by show _=_;have h:=HZ.out;omega),(by show _=_;rw [ZU,ZU];exact hyl),fun u hu=>?_,S4.below (hd.below _)⟩;rcases List.mem_or_eq_of_mem_set hu with hu | rfl
    ·rcases List.mem_or_eq_of_mem_set hu with hu | rfl
     ·exact HY.out u hu
     ·exact HY.out _ (Z7 Hyq.out)
    ·exact HY.out _ (Z7 Hx.out)
   case measure=>simp [intOf];omega
  ·clear hz hy;go_wp2_with fail
   go_end0;exact ⟨rfl,ys,Tq.out,HY.out,S⟩
end
section
open Go Go.RowKit
theorem Bg:kF 26 46 aO.size 24 (.agg #[.int .i64 0,.string ⟨#[]⟩]):=⟨Tryz.underlying26,by kernel_rfl,rfl,by decide⟩
def ahJ (b m n:Nat)(w:World)(e:Ending)(w':World):Prop:=∃ (v:Value) (xs:List ah),e=.returned v∧xs.length≤n∧(∀ x∈xs,x.t.size≤10000)∧St b m w w' [.own aO w.heap.size 46 v xs]
theorem aaX (b m n:Nat)(w:World)(hs:bQ b m w)(hm:m≤100000000)(hn:n≤20)(hP:Pool w)(hPb:1≠b) :
  Calls Tryz.prog 68 #[.pointer (some ⟨b,0,none⟩),.int .i64 n] w (ahJ b (m + 10 * n + 1) n w):=by
 have S:St b m w w [.own aO w.heap.size 46 (.slice none 0 0) []]:=(St.start hs).nil aO w.heap.size 46;have HP:=Z9 hP;clear hs hP;go_enter Tryz.func68,Tryz.ntmps68
 go_wp2_with fail
 go_loopw [5,8] (fun s5 i wr=>∃ (k:Nat) (A:Option Addr) (c:Nat) (xs:List ah),k≤n∧i=.int .i64 k∧s5=.slice A xs.length c∧Hid (xs.length≤k)∧Hid (∀ x∈xs,x.t.size≤10000)∧St b (m + 10 * k) w wr [.own aO w.heap.size 46 (.slice A xs.length c) xs]) (fun _ i _=>n - (intOf i).toNat)
 case atStart=>exact ⟨0,none,0,[],ZN _,rfl,rfl,Z5 0,by show ∀ _∈_,_;simp,S⟩
 case round =>
  clear S;obtain ⟨k,A,c,xs,hk,rfl,rfl,wZ,Hxs,S⟩:=hrel;by_cases hkn:k < n
  ·go_wp2_with fail
   refine (agJ b _ _ S.g.s (by omega) (HP.out.keep S.g.k hPb) hPb).mono ?_;rintro e w2 ⟨k1,t1,ht1,rfl,hk2,hs2⟩;replace S:=S.step hk2 hs2;clear hk2 hs2;obtain ⟨Y,hY⟩:∃ Y,Y=w2.heap.size:=⟨_,rfl⟩;have S3:=S.newAt #[.int .i64 k1,.string t1] 46 Y hY;replace S:St b (m + 10 * k + 10) w (w2.alloc (.cells #[.int .i64 k1,.string t1] 46)) [.own aO w.heap.size 46 (.slice A xs.length c) xs,.loc Y #[.int .i64 k1,.string t1] 46]:=S3;clear S3;go_upto_region 5 with fail
   rw [← hY];clear hY;generalize w2.alloc (.cells #[.int .i64 k1,.string t1] 46)=w3 at *;have Hc:=Z9 (Oj (fun _=>False) A xs c ⟨k1,t1⟩ w3 ((S.ow 0 rfl).xR jg) (by have:=wZ.out;omega));have Tt:=Z9 ht1;have y0:=(S.lv 1 rfl).all;obtain ⟨B,hB⟩:∃ B,decide ((⟨k1,t1⟩:ah)∈xs)=B:=⟨_,rfl⟩;rw [hB] at Hc;clear hB ht1;go_wp2_with fail
   refine (Hc.out).mono ?_;rintro e w4 ⟨rfl,hl4⟩;replace S:=S.below hl4;clear Hc hl4 y0;cases B
   ·have hsz:=S.g.size;have hxl:xs.length≤200:=by have:=wZ.out;omega
    have y0:=(S.lv 1 rfl).all;go_wp2_with (at_builtin;refine S.app 0 rfl Bg rfl _ _ rfl (⟨k1,t1⟩:ah) 1 rfl rfl rfl (Bf ⟨k1,t1⟩) hsz (by omega) (by decide) ?_;intro v' w10 S6;obtain ⟨A6,c6,rfl⟩:=(S6.ow 0 rfl).len)
    go_roundw
    case rel =>
     refine ⟨k + 1,A6,c6,xs++[⟨k1,t1⟩],by omega,by go_num,by simp,?_,?_,(S6.del 1).mono (by omega)⟩
     ·show (xs++[_]).length≤k + 1;have:=wZ.out
      simp;omega
     ·intro x hx;rcases List.mem_append.1 hx with hx | hx
      ·exact Hxs.out x hx
      ·rw [List.mem_singleton.1 hx];exact Tt.out
    case measure=>simp [intOf];omega
   ·go_wp2_with fail
    go_roundw
    case rel=>exact ⟨k + 1,A,c,xs,by omega,by go_num,rfl,by show _≤_;have:=wZ.out;omega,Hxs,(S.del 1).mono (by omega)⟩
    case measure=>simp [intOf];omega
  ·obtain rfl:k=n:=by omega
   obtain ⟨wb,hwb,M,back⟩:=S.ahK;have J6:=Z9 (aaW M 0 rfl (by have:=wZ.out;omega));go_wp2_with fail
   refine (J6.out).mono ?_;rintro e w2 ⟨rfl,ys,hp,_,M2⟩;have S2:St b (m + 10 * k) w w2 [.own aO w.heap.size 46 (.slice A xs.length c) ys]:=back _ _ M2;have hyl:ys.length=xs.length:=hp.length_eq;have J7:Hid (∀ x∈ys,x.t.size≤10000):=fun x hx=>Hxs.out x (hp.mem_iff.1 hx);have Ec:Hid (ys.length≤k):=by show _≤_;rw [hyl];exact wZ.out
   rw [← hyl] at S2 ⊢;clear hyl hp J6 M2 M back hwb S wZ Hxs;have S:=S2;clear S2;by_cases h1:1 < ys.length
   ·go_wp2_with fail
    refine (flip_any b _ _ _ S.g.s (by omega) (by omega) (by omega)).mono ?_;rintro e w3 ⟨r3,rfl,bF,dJ⟩;replace S:=S.step bF dJ;clear bF dJ;cases r3
    ·go_wp2_with fail
     go_ret;exact ⟨_,ys,rfl,Ec.out,J7.out,S.mono (by omega)⟩
    ·obtain ⟨g,cap,e,hcap⟩:=(S.ow 0 rfl).form (by omega);simp only [Value.slice.injEq] at e;obtain ⟨rfl,_,rfl⟩:=e;have Hrv:=Z9 (ahI (xs:=ys) (by omega) (by have:=Ec.out;omega) S);clear hcap;go_wp2_with fail
     refine (Hrv.out).mono ?_;rintro e w4 ⟨rfl,zs,hzl,hzs,S4⟩;go_wp2_with fail
     go_ret;refine ⟨_,zs,rfl,by rw [hzl];exact Ec.out,fun x hx=>J7.out x (hzs x hx),St.mono (m:=m + 10 * k + 1) S4 (by omega)⟩
   ·go_wp2_with fail
    go_ret;exact ⟨_,ys,rfl,Ec.out,J7.out,S.mono (by omega)⟩
end
section
open Go Go.RowKit
structure Ed (t:ak):Prop where
 no:-10000000000000≤t.no∧t.no≤10000000000000
 sr:t.src.size≤1000
 il:t.ids.length≤10
 it:∀ x∈t.ids,x.t.size≤10000
 fl:t.aB.length≤10
 fs:∀ f∈t.aB,f.tiny
theorem Ed.ok {t:ak}(h:Ed t):FQ t:=⟨ZE h.sr (by decide),ZE h.il (by decide),fun x hx=>ZE (h.it x hx) (by decide),ZE h.fl (by decide),fun f hf=>by
 obtain ⟨h1,h2⟩:=h.fs f hf;exact ⟨by omega,by omega⟩⟩
def ahL (b m:Nat)(w:World)(e:Ending)(w':World):Prop:=∃ (t:ak) (A:Option Addr) (c:Nat) (B:Option Addr) (d:Nat),e=.returned (.agg (aS t A c B d))∧Ed t∧St b m w w' [.sl aO A t.ids,.sl bK B t.aB]
abbrev sN:Array Value:=#[.int .i64 0,.int .i64 0,.string ⟨#[]⟩,.slice none 0 0,.slice none 0 0]
theorem J8 {w:World}{X:Nat}{a b c d e:Value}(h:LV w X #[a,b,c,d,e] 58):(loadVar 58 ⟨X,0,none⟩).run Tryz.prog w=.ok (.agg #[a,b,c,d,e]) w:=by
 have c0:=h.all;go_simp
theorem Tv (b m:Nat)(no:Int)(w:World)(hs:bQ b m w)(hm:m≤10000000)(hno:-10000000000≤no∧no≤10000000000)(hN:Names w)(hNb:0≠b)(hP:Pool w)(hPb:1≠b) :
  Calls Tryz.prog 22 #[.pointer (some ⟨b,0,none⟩),.int .i64 no] w (ahL b (m + 500) w):=by
 have S:=(St.start hs).new' sN 58;replace S:St b m w (w.alloc (.cells sN 58)) [.loc w.heap.size sN 58]:=S;have HN:=Z9 hN;have HP:=Z9 hP;have Hno:=Z9 hno;clear hs hN hP hno;obtain ⟨R,hR⟩:∃ R,R=w.heap.size:=⟨_,rfl⟩;rw [← hR] at S;go_enter Tryz.func22,Tryz.ntmps22
 go_upto_region 1 with fail
 generalize w.alloc (.cells sN 58)=w1 at *;rw [← hR];clear hR;go_wp2_with fail
 refine (mZ b _ _ _ (0) (5000) S.g.s (by first | rfl | simp) (by first | rfl | simp) (nP (by decide)) (by simp) (by simp) (by omega)).mono ?_;rintro e w2 ⟨at0,amb,amc,rfl,bW,dP⟩;replace S:=S.step bW dP;clear bW dP;go_wp2_with fail
 refine (one_le b _ _ _ (10) S.g.s (by first | rfl | simp) (by first | rfl | simp) (Jj (by decide)) (by simp) (by simp) (by omega)).mono ?_;rintro e w3 ⟨src,amd,rfl,bF,dJ⟩;replace S:=S.step bF dJ;clear bF dJ;go_wp2_with fail
 refine (mZ b _ _ _ (1) (3) S.g.s (by first | rfl | simp) (by first | rfl | simp) (nP (by decide)) (by simp) (by simp) (by omega)).mono ?_;rintro e w4 ⟨many,ahM,ahN,rfl,dK,eH⟩;replace S:=S.step dK eH;clear dK eH;obtain ⟨n,rfl⟩:=Zi (show 0≤many by omega);go_wp2_with fail
 refine (aaX b _ n _ S.g.s (by omega) (by omega) (HP.out.keep S.g.k hPb) hPb).mono ?_;rintro e w5 ⟨v,xs,rfl,hxl,hxs,T⟩;have S5:=S.join T;replace S5:St b (m + 1 + 1 + 1 + 10 * n + 1) w w5 [.loc R sN 58,.own aO w4.heap.size 46 v xs]:=S5;obtain ⟨A,c,rfl,S6⟩:=S5.cO 1 rfl;have S:St b (m + 100) w w5 [.loc R sN 58,.sl aO A xs]:=S6.mono (by omega);have Hxs:=Z9 hxs;have ame:xs.length≤3:=by omega
 clear T S5 S6 hxs hxl ahM ahN;go_wp2_with fail
 refine (agz b _ 3 _ S.g.s (by omega) (HN.out.keep S.g.k hNb)).mono ?_;rintro e w6 ⟨v,fs,rfl,ho,hfl,hft,hg⟩;have S5:=S.call hg (.own bK w5.heap.size 176 v fs) (ho.FP Ik) (fun k e=>(ho.lt k e).1);obtain ⟨B,d,rfl,S6⟩:=S5.cO 2 rfl;have S:St b (m + 200) w w6 [.loc R sN 58,.sl aO A xs,.sl bK B fs]:=S6.mono (by omega);have J9:=Z9 hft;clear S5 S6 hft hg ho;obtain ⟨X,hX⟩:∃ X,X=w6.heap.size:=⟨_,rfl⟩;have S5:=S.newAt (aS ⟨no,at0,src,xs,fs⟩ A c B d) 58 X hX;replace S:St b (m + 200) w (w6.alloc (.cells (aS ⟨no,at0,src,xs,fs⟩ A c B d) 58)) [.loc R sN 58,.loc X (aS ⟨no,at0,src,xs,fs⟩ A c B d) 58,.sl aO A xs,.sl bK B fs]:=(S5.perm (List.Perm.cons _ (List.perm_append_comm (l₁:=[Chunk.sl aO A xs,Chunk.sl bK B fs]) (l₂:=[_]))));clear S5;go_upto_region 2 with fail
 rw [← hX];clear hX;generalize w6.alloc (.cells (aS ⟨no,at0,src,xs,fs⟩ A c B d) 58)=w7 at *;go_wp2_with fail
 refine (flip_any b _ _ _ S.g.s (by omega) (by omega) (by omega)).mono ?_;rintro e w7a ⟨r8,rfl,aaY,aaZ⟩;replace S:=S.step aaY aaZ;clear aaY aaZ;cases r8
 ·have y0:=(S.lv 0 rfl).all;have y1:=(S.lv 1 rfl).all;have S9:=((((S.set 0 0 (.int .i64 (ak.no ⟨no,at0,src,xs,fs⟩)) rfl).set 0 1 (.int .i64 (ak.at' ⟨no,at0,src,xs,fs⟩)) rfl).set 0 2 (.string (ak.src ⟨no,at0,src,xs,fs⟩)) rfl).set 0 3 (.slice A (ak.ids ⟨no,at0,src,xs,fs⟩).length c) rfl).set 0 4 (.slice B fs.length d) rfl;go_wp2_with fail
  exact bodyPost_ret (fK rfl rfl (J8 (S9.lv 0 rfl))) rfl ⟨⟨no,at0,src,xs,fs⟩,A,c,B,d,rfl,⟨(by have:=Hno.out;exact ⟨by show _≤no;omega,by show no≤_;omega⟩),(by show src.size≤1000;omega),(by show xs.length≤10;omega),Hxs.out,(by show fs.length≤10;omega),J9.out⟩,((S9.del 1).del 0).mono (by omega)⟩
 ·go_wp2_with fail
  refine (next_any b _ _ _ S.g.s (by omega) (by omega) (by omega)).mono ?_;rintro e w7b ⟨r5,ahO,ahP,rfl,aa0,aa1⟩;replace S:=S.step aa0 aa1;clear aa0 aa1;obtain rfl | rfl | rfl | rfl:r5=0∨r5=1∨r5=2∨r5=3:=by omega
  ·go_wp2_with fail
   refine (Du b _ _ _ _ S.g.s (by omega) (by omega) (by omega) (by omega)).mono ?_;rintro e w8 ⟨t6,ahQ,ahR,rfl,vN,vO⟩;replace S:=S.step vN vO;clear vN vO;have x0:=(S.lv 1 rfl).all;have S2:St b (m + 500) w (w8.setCell ⟨X,0,none⟩ (.int .i64 t6)) [.loc R sN 58,.loc X (aS ⟨t6,at0,src,xs,fs⟩ A c B d) 58,.sl aO A xs,.sl bK B fs]:=(S.set 1 0 (.int .i64 t6) rfl).mono (by omega);go_upto_region 11 with fail
   clear x0 S;generalize w8.setCell ⟨X,0,none⟩ (.int .i64 t6)=w9 at *;have S:=S2;clear S2;have y0:=(S.lv 0 rfl).all;have y1:=(S.lv 1 rfl).all;have S9:=((((S.set 0 0 (.int .i64 (ak.no ⟨t6,at0,src,xs,fs⟩)) rfl).set 0 1 (.int .i64 (ak.at' ⟨t6,at0,src,xs,fs⟩)) rfl).set 0 2 (.string (ak.src ⟨t6,at0,src,xs,fs⟩)) rfl).set 0 3 (.slice A (ak.ids ⟨t6,at0,src,xs,fs⟩).length c) rfl).set 0 4 (.slice B fs.length d) rfl;go_wp2_with fail
   exact bodyPost_ret (fK rfl rfl (J8 (S9.lv 0 rfl))) rfl ⟨⟨t6,at0,src,xs,fs⟩,A,c,B,d,rfl,⟨⟨by show _≤t6;omega,by show t6≤_;omega⟩,(by show src.size≤1000;omega),(by show xs.length≤10;omega),Hxs.out,(by show fs.length≤10;omega),J9.out⟩,((S9.del 1).del 0).mono (by omega)⟩
  ·go_wp2_with fail
   refine (Du b _ _ _ _ S.g.s (by omega) (by omega) (by omega) (by omega)).mono ?_;rintro e w8 ⟨t6,ahQ,ahR,rfl,vN,vO⟩;replace S:=S.step vN vO;clear vN vO;have x0:=(S.lv 1 rfl).all;have S2:St b (m + 500) w (w8.setCell ⟨X,1,none⟩ (.int .i64 t6)) [.loc R sN 58,.loc X (aS ⟨no,t6,src,xs,fs⟩ A c B d) 58,.sl aO A xs,.sl bK B fs]:=(S.set 1 1 (.int .i64 t6) rfl).mono (by omega);go_upto_region 11 with fail
   clear x0 S;generalize w8.setCell ⟨X,1,none⟩ (.int .i64 t6)=w9 at *;have S:=S2;clear S2;have y0:=(S.lv 0 rfl).all;have y1:=(S.lv 1 rfl).all;have S9:=((((S.set 0 0 (.int .i64 (ak.no ⟨no,t6,src,xs,fs⟩)) rfl).set 0 1 (.int .i64 (ak.at' ⟨no,t6,src,xs,fs⟩)) rfl).set 0 2 (.string (ak.src ⟨no,t6,src,xs,fs⟩)) rfl).set 0 3 (.slice A (ak.ids ⟨no,t6,src,xs,fs⟩).length c) rfl).set 0 4 (.slice B fs.length d) rfl;go_wp2_with fail
   exact bodyPost_ret (fK rfl rfl (J8 (S9.lv 0 rfl))) rfl ⟨⟨no,t6,src,xs,fs⟩,A,c,B,d,rfl,⟨(by have:=Hno.out;exact ⟨by show _≤no;omega,by show no≤_;omega⟩),(by show src.size≤1000;omega),(by show xs.length≤10;omega),Hxs.out,(by show fs.length≤10;omega),J9.out⟩,((S9.del 1).del 0).mono (by omega)⟩
  ·go_wp2_with fail
   refine (one_le b _ _ _ (10) S.g.s (by first | rfl | simp) (by first | rfl | simp) (Jj (by decide)) (by simp) (by simp) (by omega)).mono ?_;rintro e w8 ⟨t6,amf,rfl,vN,vO⟩;replace S:=S.step vN vO;clear vN vO;have x0:=(S.lv 1 rfl).all;have S2:St b (m + 500) w (w8.setCell ⟨X,2,none⟩ (.string t6)) [.loc R sN 58,.loc X (aS ⟨no,at0,t6,xs,fs⟩ A c B d) 58,.sl aO A xs,.sl bK B fs]:=(S.set 1 2 (.string t6) rfl).mono (by omega);go_upto_region 11 with fail
   clear x0 S;generalize w8.setCell ⟨X,2,none⟩ (.string t6)=w9 at *;have S:=S2;clear S2;have y0:=(S.lv 0 rfl).all;have y1:=(S.lv 1 rfl).all;have S9:=((((S.set 0 0 (.int .i64 (ak.no ⟨no,at0,t6,xs,fs⟩)) rfl).set 0 1 (.int .i64 (ak.at' ⟨no,at0,t6,xs,fs⟩)) rfl).set 0 2 (.string (ak.src ⟨no,at0,t6,xs,fs⟩)) rfl).set 0 3 (.slice A (ak.ids ⟨no,at0,t6,xs,fs⟩).length c) rfl).set 0 4 (.slice B fs.length d) rfl;go_wp2_with fail
   exact bodyPost_ret (fK rfl rfl (J8 (S9.lv 0 rfl))) rfl ⟨⟨no,at0,t6,xs,fs⟩,A,c,B,d,rfl,⟨(by have:=Hno.out;exact ⟨by show _≤no;omega,by show no≤_;omega⟩),(by show t6.size≤1000;omega),(by show xs.length≤10;omega),Hxs.out,(by show fs.length≤10;omega),J9.out⟩,((S9.del 1).del 0).mono (by omega)⟩
  ·obtain ⟨w8,hw8⟩:∃ w8,w8=w7b:=⟨_,rfl⟩;rw [← hw8] at S ⊢;clear hw8;replace S:St b _ w w8 [.loc R sN 58,.loc X (aS ⟨no,at0,src,xs,fs⟩ A c B d) 58,.sl aO none [],.sl bK B fs]:=S.turn 2 rfl (.sl aO none []) rfl Sl.nil;have x0:=(S.lv 1 rfl).all;have S2:St b (m + 500) w (w8.setCell ⟨X,3,none⟩ (.slice none 0 0)) [.loc R sN 58,.loc X (aS ⟨no,at0,src,[],fs⟩ none 0 B d) 58,.sl aO none [],.sl bK B fs]:=(S.set 1 3 (.slice none 0 0) rfl).mono (by omega);go_upto_region 11 with fail
   clear x0 S;generalize w8.setCell ⟨X,3,none⟩ (.slice none 0 0)=w9 at *;have S:=S2;clear S2;have y0:=(S.lv 0 rfl).all;have y1:=(S.lv 1 rfl).all;have S9:=((((S.set 0 0 (.int .i64 (ak.no ⟨no,at0,src,[],fs⟩)) rfl).set 0 1 (.int .i64 (ak.at' ⟨no,at0,src,[],fs⟩)) rfl).set 0 2 (.string (ak.src ⟨no,at0,src,[],fs⟩)) rfl).set 0 3 (.slice none (ak.ids ⟨no,at0,src,[],fs⟩).length 0) rfl).set 0 4 (.slice B fs.length d) rfl;go_wp2_with fail
   exact bodyPost_ret (fK rfl rfl (J8 (S9.lv 0 rfl))) rfl ⟨⟨no,at0,src,[],fs⟩,none,0,B,d,rfl,⟨(by have:=Hno.out;exact ⟨by show _≤no;omega,by show no≤_;omega⟩),(by show src.size≤1000;omega),ZN _,(fun x hx=>by cases hx),(by show fs.length≤10;omega),J9.out⟩,((S9.del 1).del 0).mono (by omega)⟩
def ahS (b m n:Nat)(w:World)(e:Ending)(w':World):Prop:=∃ (v:Value) (qs:List TQ),e=.returned v∧qs.length≤n∧(∀ q∈qs,Ed q.t)∧St b m w w' [.own lX w.heap.size 58 v qs,.jL qs]
theorem aah (b m n:Nat)(w:World)(hs:bQ b m w)(hm:m≤1000000)(hn:n≤16)(hN:Names w)(hNb:0≠b)(hP:Pool w)(hPb:1≠b) :
  Calls Tryz.prog 47 #[.pointer (some ⟨b,0,none⟩),.int .i64 n] w (ahS b (m + 600 * n + 10) n w):=by
 have S0:=(St.start hs).nil lX w.heap.size 58;have S1:=S0.call (G.start S0.g.s) (.jL []) (fun q hq=>by cases hq) (fun k e=>by cases e);have S:St b m w w [.own lX w.heap.size 58 (.slice none 0 0) [],.jL []]:=S1;have HN:=Z9 hN;have HP:=Z9 hP;clear hs hN hP S0 S1;go_enter Tryz.func47,Tryz.ntmps47
 go_wp2_with fail
 go_loopw [5,6,8] (fun s5 s6 i wr=>∃ (k:Nat) (A:Option Addr) (c:Nat) (qs:List TQ) (no:Int),k≤n∧i=.int .i64 k∧s5=.slice A qs.length c∧s6=.int .i64 no∧Hid (0≤no∧no≤7 * (k:Int))∧Hid (qs.length=k)∧Hid (∀ q∈qs,Ed q.t)∧St b (m + 600 * k) w wr [.own lX w.heap.size 58 (.slice A qs.length c) qs,.jL qs]) (fun _ _ i _=>n - (intOf i).toNat)
 case atStart=>exact ⟨0,none,0,[],0,ZN _,rfl,rfl,rfl,⟨Int.le_refl _,by simp⟩,rfl,by show ∀ _∈_,_;simp,S⟩
 case round =>
  clear S;obtain ⟨k,A,c,qs,no,hk,rfl,rfl,rfl,Hno,bY,dV,S⟩:=hrel;by_cases hkn:k < n
  ·go_wp2_with fail
   refine (mZ b _ _ _ (1) (7) S.g.s (by first | rfl | simp) (by first | rfl | simp) (nP (by decide)) (by simp) (by simp) (by omega)).mono ?_;rintro e w2 ⟨d,Tz,TA,rfl,bW,dP⟩;replace S:=S.step bW dP;clear bW dP;have hno:=Hno.out;have hwr:IntKind.i64.wrap (no + d)=no + d:=IntWalk.i64_in _ (by omega);obtain ⟨n2,hn2⟩:∃ n2,no + d=n2:=⟨_,rfl⟩;rw [hn2] at hwr;have lq:Hid (0≤n2∧n2≤7 * ((k + 1:Nat):Int)):=by show _∧_;omega
   have aa2:-10000000000≤n2∧n2≤10000000000:=by omega
   clear Hno hno Tz TA;go_wp2_with fail
   refine (Tv b _ n2 _ S.g.s (by omega) aa2 (HN.out.keep S.g.k hNb) hNb (HP.out.keep S.g.k hPb) hPb).mono ?_;rintro e w3 ⟨t,A1,c1,B1,d1,rfl,ht,T⟩;have S3:=S.join T;replace S:St b (m + 600 * k + 501) w w3 [.own lX w.heap.size 58 (.slice A qs.length c) qs,.jL qs,.sl aO A1 t.ids,.sl bK B1 t.aB]:=S3.mono (by omega);replace S:=S.J5 1 2 3 rfl rfl rfl ⟨t,A1,c1,B1,d1⟩ rfl rfl rfl rfl;have Ht:=Z9 ht;have hsz:=S.g.size;have jG:qs.length≤200:=by have:=bY.out;omega
   clear T ht S3 aa2;go_wp2_with (at_builtin;refine S.app 0 rfl Ti rfl _ _ rfl (⟨t,A1,c1,B1,d1⟩:TQ) 1 rfl rfl rfl (Tj ⟨t,A1,c1,B1,d1⟩) hsz (by omega) (by decide) ?_;intro v' w10 S6;obtain ⟨A6,c6,rfl⟩:=(S6.ow 0 rfl).len)
   go_roundw
   case rel =>
    refine ⟨k + 1,A6,c6,qs++[⟨t,A1,c1,B1,d1⟩],n2,by omega,by go_num,by simp,by first | rfl | (rw [hn2]),lq,by show _=_;simp [bY.out],?_,((S6.del 3).del 2).mono (by omega)⟩;intro q hq;rcases List.mem_append.1 hq with hq | hq
    ·exact dV.out q hq
    ·rw [List.mem_singleton.1 hq];exact Ht.out
   case measure=>simp [intOf];omega
  ·have hkk:k=n:=by omega
   subst hkk;by_cases h1:1 < k
   ·go_wp2_with fail
    refine (flip_any b _ _ _ S.g.s (by omega) (by omega) (by omega)).mono ?_;rintro e w2 ⟨r2,rfl,bW,dP⟩;replace S:=S.step bW dP;clear bW dP;cases r2
    ·go_wp2_with fail
     go_ret;exact ⟨_,qs,rfl,Nat.le_of_eq bY.out,dV.out,S.mono (by omega)⟩
    ·have jG:=bY.out;match qs,bY,dV,S,jG with
     | x::y::r,bY,dV,S,jG =>
      obtain ⟨g,cap,e,hcap⟩:=(S.ow 0 rfl).form (by simp);simp only [Value.slice.injEq] at e;obtain ⟨rfl,_,rfl⟩:=e;obtain ⟨⟨a0,a1,a2,a3,a4⟩,af⟩:=(S.ow 0 rfl).FY rfl 0 x rfl;obtain ⟨⟨b0,b1,b2,b3,b4⟩,bf⟩:=(S.ow 0 rfl).FY rfl 1 y rfl;have c0:w2.cell? ⟨g,0,none⟩=some (.int .i64 x.t.no):=a0;have c1:w2.cell? ⟨g,1,none⟩=some (.int .i64 x.t.at'):=a1;have c2:w2.cell? ⟨g,2,none⟩=some (.string x.t.src):=a2;have c3:w2.cell? ⟨g,3,none⟩=some (.slice x.A x.t.ids.length x.c):=a3;have c4:w2.cell? ⟨g,4,none⟩=some (.slice x.B x.t.aB.length x.d):=a4;have c5:w2.cell? ⟨g,5,none⟩=some (.int .i64 y.t.no):=b0;have c6:w2.cell? ⟨g,6,none⟩=some (.int .i64 y.t.at'):=b1;have c7:w2.cell? ⟨g,7,none⟩=some (.string y.t.src):=b2;have c8:w2.cell? ⟨g,8,none⟩=some (.slice y.A y.t.ids.length y.c):=b3;have c9:w2.cell? ⟨g,9,none⟩=some (.slice y.B y.t.aB.length y.d):=b4;have f0:w2.frozen? ⟨g,0,none⟩=false:=af 0 (by omega);have f1:w2.frozen? ⟨g,1,none⟩=false:=af 1 (by omega);have f2:w2.frozen? ⟨g,2,none⟩=false:=af 2 (by omega);have f3:w2.frozen? ⟨g,3,none⟩=false:=af 3 (by omega);have f4:w2.frozen? ⟨g,4,none⟩=false:=af 4 (by omega);have f5:w2.frozen? ⟨g,5,none⟩=false:=bf 0 (by omega);have f6:w2.frozen? ⟨g,6,none⟩=false:=bf 1 (by omega);have f7:w2.frozen? ⟨g,7,none⟩=false:=bf 2 (by omega);have f8:w2.frozen? ⟨g,8,none⟩=false:=bf 3 (by omega);have f9:w2.frozen? ⟨g,9,none⟩=false:=bf 4 (by omega);have HS:=Z9 S;clear S a0 a1 a2 a3 a4 af b0 b1 b2 b3 b4 bf jG hcap;go_wp2_with fail
      go_region
      go_wp2_with fail
      go_ret;have S1:=(HS.out.aaV 0 rfl rfl 0 x y rfl).aaV 0 rfl rfl 1 y x rfl;refine ⟨.slice (some ⟨g,0,none⟩) (r.length + 1 + 1) c,y::x::r,rfl,Nat.le_of_eq bY.out,?_,?_⟩
      ·intro q hq;simp only [YU] at hq;rcases hq with rfl | rfl | hq
       ·exact dV.out _ (by simp)
       ·exact dV.out _ (by simp)
       ·exact dV.out q (by simp [hq])
      ·refine St.mono (m:=m + 600 * k + 1) ?_ (by omega);have hsw:∀ q∈y::x::r,q∈x::y::r:=fun q hq=>by
        simp only [YU] at hq ⊢;rcases hq with h | h | h
        ·exact .inr (.inl h)
        ·exact .inl h
        ·exact .inr (.inr h)
       exact (S1.below ((show je _ _ from rfl).below _)).ahD 1 rfl hsw
     | [x],bY,dV,S,jG=>exact absurd jG (by simp;omega)
     | [],bY,dV,S,jG=>exact absurd jG (by simp;omega)
   ·go_wp2_with fail
    go_ret;exact ⟨_,qs,rfl,Nat.le_of_eq bY.out,dV.out,S.mono (by omega)⟩
end
end Go.Proofs.YtmkkppknaikjjaaGreatDoor
