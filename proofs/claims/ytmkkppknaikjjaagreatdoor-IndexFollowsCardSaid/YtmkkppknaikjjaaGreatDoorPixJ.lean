/- Several texts in one: Tchq, IdSort, RevId, GenIds, GenTch. -/
import Derived.Test.YtmkkppknaikjjaaGreatDoorPixC
import Derived.Test.YtmkkppknaikjjaaGreatDoorPixQ
import Derived.Test.YtmkkppknaikjjaaGreatDoorSfix
import Derived.Test.YtmkkppknaikjjaaGreatDoorPixR
import Derived.Test.YtmkkppknaikjjaaGreatDoorPixB
import Derived.RegionTactic
import Derived.ChangeAlike
import Derived.Test.YtmkkppknaikjjaaGreatDoorPixG
import Derived.Test.YtmkkppknaikjjaaGreatDoorPixZ
import Derived.Deep.DeepCutAuto
/- Touches in memory that may still be turned: their rows, and apart from them their ids and fields, which stay. -/
namespace Go.Proofs.YtmkkppknaikjjaaGreatDoor
section
open Go Go.RowKit
structure TQ where
 t:Tch
 A:Option Addr
 c:Nat
 B:Option Addr
 d:Nat
def TQ.cells (q:TQ):List Value:=[.int .i64 q.t.no,.int .i64 q.t.at',.string q.t.src,.slice q.A q.t.ids.length q.c,.slice q.B q.t.flds.length q.d]
def rTQ:Rep TQ:=.flat 5 TQ.cells (fun _=>rfl)
theorem flatTQ:rTQ.Flat TQ.cells:=fun _ _ _ _=>Iff.rfl
theorem tyTch:STy 30 58 rTQ.size 80 (.agg #[.int .i64 0,.int .i64 0,.string ⟨#[]⟩,.slice none 0 0,.slice none 0 0]):=⟨Tryz.underlying30,by kernel_rfl,rfl,by decide⟩
theorem oneTQ (q:TQ):∀ u∈q.cells,u.oneCell'=true:=fun u hu=>by
 simp only [TQ.cells,List.mem_cons,List.not_mem_nil,or_false] at hu;rcases hu with rfl | rfl | rfl | rfl | rfl <;> rfl
def TdOk (M:Nat→Prop)(w:World)(qs:List TQ):Prop:=∀ q∈qs,Sl rId M w q.A q.t.ids∧Sl rFld M w q.B q.t.flds
def Chunk.tdat (qs:List TQ):Chunk :=
 ⟨none,fun M w=>TdOk M w qs,fun k hd _ h q hq=>⟨(h q hq).1.keep (k.mono hd),(h q hq).2.keep (k.mono hd)⟩,fun hm h q hq=>⟨(h q hq).1.mono (fun k hk e=>(hm k hk e).resolve_right (by simp)),(h q hq).2.mono (fun k hk e=>(hm k hk e).resolve_right (by simp))⟩,fun _ _ e=>by cases e⟩
section
variable {b m:Nat} {w0 w:World} {cs:List Chunk}
end
theorem slTch {N:Nat→Prop}{w:World}{A:Option Addr}{qs:List TQ}(h:Sl rTQ N w A qs)(hf:TdOk N w qs):Sl rTch N w A (qs.map TQ.t):=fun i x hx=>by
 rw [List.getElem?_map] at hx;cases hq:qs[i]? with
 | none=>rw [hq] at hx;cases hx
 | some y =>
  rw [hq] at hx;obtain rfl:y.t=x:=by simpa using hx
  obtain ⟨blk,off,l,e1,h1,h2,h3,h4⟩:=h i y hq;obtain rfl:l=TQ.cells y:=h3;have hy:=hf y (List.mem_of_getElem? hq);exact ⟨blk,off,_,e1,h1,h2,rTch_mk (c:=y.c) (d:=y.d) hy.1 hy.2,h4⟩
theorem Own.tqAt {M:Nat→Prop}{B E g n cap:Nat}{w:World}{xs:List TQ}(h:Own rTQ M B E w (.slice (some ⟨g,0,none⟩) n cap) xs)(hn:n=xs.length)(k:Nat)(x:TQ)(hk:xs[k]? =some x) :
  (w.cell? ⟨g,k * 5,none⟩=some (.int .i64 x.t.no)∧w.cell? ⟨g,k * 5 + 1,none⟩=some (.int .i64 x.t.at')∧w.cell? ⟨g,k * 5 + 2,none⟩=some (.string x.t.src)∧w.cell? ⟨g,k * 5 + 3,none⟩=some (.slice x.A x.t.ids.length x.c)∧w.cell? ⟨g,k * 5 + 4,none⟩=some (.slice x.B x.t.flds.length x.d)) ∧
  ∀ j,j < 5→w.frozen? ⟨g,k * 5 + j,none⟩=false :=
 ⟨⟨(h.cellP flatTQ hn k x hk 0 _ rfl).1,(h.cellP flatTQ hn k x hk 1 _ rfl).1,(h.cellP flatTQ hn k x hk 2 _ rfl).1,(h.cellP flatTQ hn k x hk 3 _ rfl).1,(h.cellP flatTQ hn k x hk 4 _ rfl).1⟩,fun j hj=>by
  obtain ⟨u,hu⟩:∃ u,(TQ.cells x)[j]? =some u:=⟨_,List.getElem?_eq_getElem hj⟩;exact (h.cellP flatTQ hn k x hk j u hu).2⟩
end
section
open Go Go.RowKit Go.Sort Go.Shelf
theorem oneIdP (x:IdV):∀ u∈x.cells,u.oneCell'=true:=fun u hu=>by
 simp only [IdV.cells,List.mem_cons,List.not_mem_nil,or_false] at hu;rcases hu with rfl | rfl <;> rfl
theorem sortIdP_any {w0 w:World}{cs:List Chunk}(S:Mem w0 w cs)(i:Nat){B:Nat}{v:Value}{xs:List IdV}(hi:cs[i]? =some (.own rId B 46 v xs))(hl:xs.length≤1000000) :
  Calls Tryz.prog 77 #[v,.func (.func 116) #[] #[]] w (GivesSorted rId cmpId w0 cs i B 46 v xs) :=
 haveI:Inhabited IdV:=⟨⟨0,⟨#[]⟩⟩⟩
 sortFn_own flatId (by decide) (fun _=>rfl) oneIdP Tryz.laysSf77 Tryz.isAgg46 Tryz.sizeOf46 (fun _=>True) cmpId cmpId cmpId_ok (fun _ _=>Iff.rfl) 116 (enters_of Tryz.func116 (by kernel_rfl) rfl) (fun a b _ _ w=>compareIdsG_any a.k b.k a.t b.t w) S i hi (fun _ _=>trivial) hl
theorem sortIdR_any {w0 w:World}{cs:List Chunk}(S:Mem w0 w cs)(i:Nat){B:Nat}{v:Value}{xs:List IdV}(hi:cs[i]? =some (.own rId B 46 v xs))(hl:xs.length≤1000000) :
  Calls Tryz.prog 77 #[v,.func (.func 78) #[] #[]] w (GivesSorted rId cmpId w0 cs i B 46 v xs) :=
 haveI:Inhabited IdV:=⟨⟨0,⟨#[]⟩⟩⟩
 sortFn_own flatId (by decide) (fun _=>rfl) oneIdP Tryz.laysSf77 Tryz.isAgg46 Tryz.sizeOf46 (fun _=>True) cmpId cmpId cmpId_ok (fun _ _=>Iff.rfl) 78 (enters_of Tryz.func78 (by kernel_rfl) rfl) (fun a b _ _ w=>orderG_any a.k b.k a.t b.t w) S i hi (fun _ _=>trivial) hl
end
section
open Go Go.RowKit
set_option maxHeartbeats 4000000 in
set_option maxRecDepth 100000 in
theorem revId_any {b m:Nat}{w0 w:World}{cs:List Chunk}{B g cap:Nat}{xs:List IdV}(h1:1≤xs.length)(h3:xs.length≤1000000)(S:St b m w0 w (.own rId B 46 (.slice (some ⟨g,0,none⟩) xs.length cap) xs::cs)) :
  Calls Tryz.prog 141 #[.slice (some ⟨g,0,none⟩) xs.length cap] w fun e w'=>e=.returned (.tuple #[])∧∃ ys:List IdV,ys.length=xs.length∧(∀ y∈ys,y∈xs)∧St b m w0 w' (.own rId B 46 (.slice (some ⟨g,0,none⟩) xs.length cap) ys::cs):=by
 obtain ⟨n,hn⟩:∃ n,n=xs.length:=⟨_,rfl⟩;rw [← hn] at h1 h3 S ⊢;have Hn:=Lib.hid hn;clear hn;go_enter Tryz.func141,Tryz.ntmps141
 go_wp2_with fail
 go_loopw [2,3] (fun i j wr=>∃ (k:Nat) (z:Int) (ys:List IdV),k≤n∧i=.int .i64 k∧j=.int .i64 z∧Hid (z=(n:Int) - 1 - k)∧Hid (ys.length=n)∧Hid (∀ y∈ys,y∈xs)∧St b m w0 wr (.own rId B 46 (.slice (some ⟨g,0,none⟩) n cap) ys::cs)) (fun i _ _=>n - (intOf i).toNat)
 case atStart=>exact ⟨0,(n:Int) - 1,xs,Nat.zero_le _,rfl,by go_num,by show _=_;omega,Hn.out.symm,fun y h=>h,S⟩
 case round =>
  clear S;obtain ⟨k,z,ys,hk,rfl,rfl,HZ,HYl,S⟩:=hrel;obtain ⟨HY,S⟩:=S;have hz:=HZ.out;have hy:=HYl.out;by_cases hlt:(k:Int) < z
  ·obtain ⟨q,hq⟩:∃ q:Nat,z=(q:Int):=⟨n - 1 - k,by omega⟩;subst hq;obtain ⟨x,hx⟩:∃ x,ys[k]? =some x:=⟨_,List.getElem?_eq_getElem (by omega)⟩;obtain ⟨y,hyq⟩:∃ y,ys[q]? =some y:=⟨_,List.getElem?_eq_getElem (by omega)⟩;have a0:=Own.cellP flatId (S.ow 0 rfl) hy.symm k x hx 0 (.int .i64 x.k) rfl;have a1:=Own.cellP flatId (S.ow 0 rfl) hy.symm k x hx 1 (.string x.t) rfl;have b0:=Own.cellP flatId (S.ow 0 rfl) hy.symm q y hyq 0 (.int .i64 y.k) rfl;have b1:=Own.cellP flatId (S.ow 0 rfl) hy.symm q y hyq 1 (.string y.t) rfl;have c0:wr.cell? ⟨g,k * 2,none⟩=some (.int .i64 x.k):=a0.1;have c1:wr.cell? ⟨g,k * 2 + 1,none⟩=some (.string x.t):=a1.1;have c2:wr.cell? ⟨g,q * 2,none⟩=some (.int .i64 y.k):=b0.1;have c3:wr.cell? ⟨g,q * 2 + 1,none⟩=some (.string y.t):=b1.1;have f0:wr.frozen? ⟨g,k * 2,none⟩=false:=a0.2;have f1:wr.frozen? ⟨g,k * 2 + 1,none⟩=false:=a1.2;have f2:wr.frozen? ⟨g,q * 2,none⟩=false:=b0.2;have f3:wr.frozen? ⟨g,q * 2 + 1,none⟩=false:=b1.2;have hlt2:(q:Int) < n:=by omega
   have hlt3:(k:Int) < n:=by omega
   clear hz hy;have HS:=Lib.hid S;have Hx:=Lib.hid hx;have Hyq:=Lib.hid hyq;clear a0 a1 b0 b1 S hx hyq;go_wp2_with fail
   go_region
   go_wp2_with fail
   go_roundw
   case rel =>
    have hkq:k≠q:=by have h:=HZ.out;omega
    have hyl:=HYl.out;have S1:St b m w0 (wr.setCell ⟨g,k * 2,none⟩ (.int .i64 y.k)) (.own rId B 46 (.slice (some ⟨g,0,none⟩) n cap) (ys.set k ⟨y.k,x.t⟩)::cs):=HS.out.put flatId 0 rfl hyl.symm k x ⟨y.k,x.t⟩ Hx.out 0 (by decide) (.int .i64 y.k) rfl;have S2:St b m w0 ((wr.setCell ⟨g,k * 2,none⟩ (.int .i64 y.k)).setCell ⟨g,k * 2 + 1,none⟩ (.string y.t)) (.own rId B 46 (.slice (some ⟨g,0,none⟩) n cap) (ys.set k y)::cs):=by
     have:=S1.put flatId 0 rfl (by rw [List.length_set];exact hyl.symm) k ⟨y.k,x.t⟩ y (by rw [List.getElem?_set_self (by omega)]) 1 (by decide) (.string y.t) rfl
     rw [List.set_set] at this;exact this
    have S3:St b m w0 (((wr.setCell ⟨g,k * 2,none⟩ (.int .i64 y.k)).setCell ⟨g,k * 2 + 1,none⟩ (.string y.t)).setCell ⟨g,q * 2,none⟩ (.int .i64 x.k)) (.own rId B 46 (.slice (some ⟨g,0,none⟩) n cap) ((ys.set k y).set q ⟨x.k,y.t⟩)::cs):=S2.put flatId 0 rfl (by rw [List.length_set];exact hyl.symm) q y ⟨x.k,y.t⟩ (by rw [List.getElem?_set_ne hkq];exact Hyq.out) 0 (by decide) (.int .i64 x.k) rfl;have S4:St b m w0 ((((wr.setCell ⟨g,k * 2,none⟩ (.int .i64 y.k)).setCell ⟨g,k * 2 + 1,none⟩ (.string y.t)).setCell ⟨g,q * 2,none⟩ (.int .i64 x.k)).setCell ⟨g,q * 2 + 1,none⟩ (.string x.t)) (.own rId B 46 (.slice (some ⟨g,0,none⟩) n cap) ((ys.set k y).set q x)::cs):=by
     have:=S3.put flatId 0 rfl (by rw [List.length_set,List.length_set];exact hyl.symm) q ⟨x.k,y.t⟩ x (by rw [List.getElem?_set_self (by rw [List.length_set];omega)]) 1 (by decide) (.string x.t) rfl
     rw [List.set_set] at this;exact this
    have hd:Drewn ((((wr.setCell ⟨g,k * 2,none⟩ (.int .i64 y.k)).setCell ⟨g,k * 2 + 1,none⟩ (.string y.t)).setCell ⟨g,q * 2,none⟩ (.int .i64 x.k)).setCell ⟨g,q * 2 + 1,none⟩ (.string x.t)) _:=rfl;refine ⟨k + 1,(q:Int) - 1,(ys.set k y).set q x,by omega,by go_num,rfl,(by show _=_;have h:=HZ.out;omega),(by show _=_;rw [List.length_set,List.length_set];exact hyl),fun u hu=>?_,S4.below (hd.below _)⟩;rcases List.mem_or_eq_of_mem_set hu with hu | rfl
    ·rcases List.mem_or_eq_of_mem_set hu with hu | rfl
     ·exact HY.out u hu
     ·exact HY.out _ (List.mem_of_getElem? Hyq.out)
    ·exact HY.out _ (List.mem_of_getElem? Hx.out)
   case measure=>simp [intOf];omega
  ·clear hz hy;go_wp2_with fail
   go_end0;exact ⟨rfl,ys,HYl.out,HY.out,S⟩
end
section
open Go Go.RowKit
theorem tyIdP:STy 26 46 rId.size 24 (.agg #[.int .i64 0,.string ⟨#[]⟩]):=⟨Tryz.underlying26,by kernel_rfl,rfl,by decide⟩
def DrawsIds (b m n:Nat)(w:World)(e:Ending)(w':World):Prop:=∃ (v:Value) (xs:List IdV),e=.returned v∧xs.length≤n∧(∀ x∈xs,x.t.size≤10000)∧St b m w w' [.own rId w.heap.size 46 v xs]
set_option maxHeartbeats 4000000 in
set_option maxRecDepth 100000 in
theorem ids_any (b m n:Nat)(w:World)(hs:Strm b m w)(hm:m≤100000000)(hn:n≤20)(hP:Pool w)(hPb:1≠b) :
  Calls Tryz.prog 68 #[.pointer (some ⟨b,0,none⟩),.int .i64 n] w (DrawsIds b (m + 10 * n + 1) n w):=by
 have S:St b m w w [.own rId w.heap.size 46 (.slice none 0 0) []]:=(St.start hs).nil rId w.heap.size 46;have HP:=Lib.hid hP;clear hs hP;go_enter Tryz.func68,Tryz.ntmps68
 go_wp2_with fail
 go_loopw [5,8] (fun s5 i wr=>∃ (k:Nat) (A:Option Addr) (c:Nat) (xs:List IdV),k≤n∧i=.int .i64 k∧s5=.slice A xs.length c∧Hid (xs.length≤k)∧Hid (∀ x∈xs,x.t.size≤10000)∧St b (m + 10 * k) w wr [.own rId w.heap.size 46 (.slice A xs.length c) xs]) (fun _ i _=>n - (intOf i).toNat)
 case atStart=>exact ⟨0,none,0,[],Nat.zero_le _,rfl,rfl,Nat.le_refl 0,by show ∀ _∈_,_;simp,S⟩
 case round =>
  clear S;obtain ⟨k,A,c,xs,hk,rfl,rfl,Hxl,Hxs,S⟩:=hrel;by_cases hkn:k < n
  ·go_wp2_with fail
   refine (id_any b _ _ S.g.s (by omega) (HP.out.keep S.g.k hPb) hPb).mono ?_;rintro e w2 ⟨k1,t1,ht1,rfl,hk2,hs2⟩;replace S:=S.step hk2 hs2;clear hk2 hs2;obtain ⟨Y,hY⟩:∃ Y,Y=w2.heap.size:=⟨_,rfl⟩;have S3:=S.newAt #[.int .i64 k1,.string t1] 46 Y hY;replace S:St b (m + 10 * k + 10) w (w2.alloc (.cells #[.int .i64 k1,.string t1] 46)) [.own rId w.heap.size 46 (.slice A xs.length c) xs,.loc Y #[.int .i64 k1,.string t1] 46]:=S3;clear S3;go_upto_region 5 with fail
   rw [← hY];clear hY;generalize w2.alloc (.cells #[.int .i64 k1,.string t1] 46)=w3 at *;have Hc:=Lib.hid (containsId_any (fun _=>False) A xs c ⟨k1,t1⟩ w3 ((S.ow 0 rfl).slF flatId) (by have:=Hxl.out;omega));have Ht1:=Lib.hid ht1;have y0:=(S.lv 1 rfl).all;obtain ⟨B,hB⟩:∃ B,decide ((⟨k1,t1⟩:IdV)∈xs)=B:=⟨_,rfl⟩;rw [hB] at Hc;clear hB ht1;go_wp2_with fail
   refine (Hc.out).mono ?_;rintro e w4 ⟨rfl,hl4⟩;replace S:=S.below hl4;clear Hc hl4 y0;cases B
   ·have hsz:=S.g.size;have hxl:xs.length≤200:=by have:=Hxl.out;omega
    have y0:=(S.lv 1 rfl).all;go_wp2_with (at_builtin;refine S.app 0 rfl tyIdP rfl _ _ rfl (⟨k1,t1⟩:IdV) 1 rfl rfl rfl (oneIdP ⟨k1,t1⟩) hsz (by omega) (by decide) ?_;intro v' w10 S6;obtain ⟨A6,c6,rfl⟩:=(S6.ow 0 rfl).len)
    go_roundw
    case rel =>
     refine ⟨k + 1,A6,c6,xs++[⟨k1,t1⟩],by omega,by go_num,by simp,?_,?_,(S6.del 1).mono (by omega)⟩
     ·show (xs++[_]).length≤k + 1;have:=Hxl.out
      simp;omega
     ·intro x hx;rcases List.mem_append.1 hx with hx | hx
      ·exact Hxs.out x hx
      ·rw [List.mem_singleton.1 hx];exact Ht1.out
    case measure=>simp [intOf];omega
   ·go_wp2_with fail
    go_roundw
    case rel=>exact ⟨k + 1,A,c,xs,by omega,by go_num,rfl,by show _≤_;have:=Hxl.out;omega,Hxs,(S.del 1).mono (by omega)⟩
    case measure=>simp [intOf];omega
  ·obtain rfl:k=n:=by omega
   obtain ⟨wb,hwb,M,back⟩:=S.viaMem;have Hsrt:=Lib.hid (sortIdR_any M 0 rfl (by have:=Hxl.out;omega));go_wp2_with fail
   refine (Hsrt.out).mono ?_;rintro e w2 ⟨rfl,ys,hp,_,M2⟩;have S2:St b (m + 10 * k) w w2 [.own rId w.heap.size 46 (.slice A xs.length c) ys]:=back _ _ M2;have hyl:ys.length=xs.length:=hp.length_eq;have Hys:Hid (∀ x∈ys,x.t.size≤10000):=fun x hx=>Hxs.out x (hp.mem_iff.1 hx);have Hyl:Hid (ys.length≤k):=by show _≤_;rw [hyl];exact Hxl.out
   rw [← hyl] at S2 ⊢;clear hyl hp Hsrt M2 M back hwb S Hxl Hxs;have S:=S2;clear S2;by_cases h1:1 < ys.length
   ·go_wp2_with fail
    refine (flip_any b _ _ _ S.g.s (by omega) (by omega) (by omega)).mono ?_;rintro e w3 ⟨r3,rfl,hk_w3,hs_w3⟩;replace S:=S.step hk_w3 hs_w3;clear hk_w3 hs_w3;cases r3
    ·go_wp2_with fail
     go_ret;exact ⟨_,ys,rfl,Hyl.out,Hys.out,S.mono (by omega)⟩
    ·obtain ⟨g,cap,e,hcap⟩:=(S.ow 0 rfl).form (by omega);simp only [Value.slice.injEq] at e;obtain ⟨rfl,_,rfl⟩:=e;have Hrv:=Lib.hid (revId_any (xs:=ys) (by omega) (by have:=Hyl.out;omega) S);clear hcap;go_wp2_with fail
     refine (Hrv.out).mono ?_;rintro e w4 ⟨rfl,zs,hzl,hzs,S4⟩;go_wp2_with fail
     go_ret;refine ⟨_,zs,rfl,by rw [hzl];exact Hyl.out,fun x hx=>Hys.out x (hzs x hx),St.mono (m:=m + 10 * k + 1) S4 (by omega)⟩
   ·go_wp2_with fail
    go_ret;exact ⟨_,ys,rfl,Hyl.out,Hys.out,S.mono (by omega)⟩
end
section
open Go Go.RowKit
structure TchSm (t:Tch):Prop where
 no:-10000000000000≤t.no∧t.no≤10000000000000
 sr:t.src.size≤1000
 il:t.ids.length≤10
 it:∀ x∈t.ids,x.t.size≤10000
 fl:t.flds.length≤10
 fs:∀ f∈t.flds,f.tiny
theorem TchSm.ok {t:Tch}(h:TchSm t):TchOk t:=⟨Nat.le_trans h.sr (by decide),Nat.le_trans h.il (by decide),fun x hx=>Nat.le_trans (h.it x hx) (by decide),Nat.le_trans h.fl (by decide),fun f hf=>by
 obtain ⟨h1,h2⟩:=h.fs f hf;exact ⟨by omega,by omega⟩⟩
def DrawsTch (b m:Nat)(w:World)(e:Ending)(w':World):Prop:=∃ (t:Tch) (A:Option Addr) (c:Nat) (B:Option Addr) (d:Nat),e=.returned (.agg (tcCs t A c B d))∧TchSm t∧St b m w w' [.sl rId A t.ids,.sl rFld B t.flds]
abbrev tzCs:Array Value:=#[.int .i64 0,.int .i64 0,.string ⟨#[]⟩,.slice none 0 0,.slice none 0 0]
theorem loadTc {w:World}{X:Nat}{a b c d e:Value}(h:LV w X #[a,b,c,d,e] 58):(loadVar 58 ⟨X,0,none⟩).run Tryz.prog w=.ok (.agg #[a,b,c,d,e]) w:=by
 have c0:=h.all;go_simp
set_option maxHeartbeats 8000000 in
set_option maxRecDepth 100000 in
theorem touch_any (b m:Nat)(no:Int)(w:World)(hs:Strm b m w)(hm:m≤10000000)(hno:-10000000000≤no∧no≤10000000000)(hN:Names w)(hNb:0≠b)(hP:Pool w)(hPb:1≠b) :
  Calls Tryz.prog 22 #[.pointer (some ⟨b,0,none⟩),.int .i64 no] w (DrawsTch b (m + 500) w):=by
 have S:=(St.start hs).new' tzCs 58;replace S:St b m w (w.alloc (.cells tzCs 58)) [.loc w.heap.size tzCs 58]:=S;have HN:=Lib.hid hN;have HP:=Lib.hid hP;have Hno:=Lib.hid hno;clear hs hN hP hno;obtain ⟨R,hR⟩:∃ R,R=w.heap.size:=⟨_,rfl⟩;rw [← hR] at S;go_enter Tryz.func22,Tryz.ntmps22
 go_upto_region 1 with fail
 generalize w.alloc (.cells tzCs 58)=w1 at *;rw [← hR];clear hR;go_wp2_with fail
 refine (pick_le b _ _ _ (0) (5000) S.g.s (by first | rfl | simp) (by first | rfl | simp) (intsIn_of (by decide)) (by simp) (by simp) (by omega)).mono ?_;rintro e w2 ⟨at0,at0_lo,at0_hi,rfl,hk_w2,hs_w2⟩;replace S:=S.step hk_w2 hs_w2;clear hk_w2 hs_w2;go_wp2_with fail
 refine (one_le b _ _ _ (10) S.g.s (by first | rfl | simp) (by first | rfl | simp) (strsLe_of (by decide)) (by simp) (by simp) (by omega)).mono ?_;rintro e w3 ⟨src,src_le,rfl,hk_w3,hs_w3⟩;replace S:=S.step hk_w3 hs_w3;clear hk_w3 hs_w3;go_wp2_with fail
 refine (pick_le b _ _ _ (1) (3) S.g.s (by first | rfl | simp) (by first | rfl | simp) (intsIn_of (by decide)) (by simp) (by simp) (by omega)).mono ?_;rintro e w4 ⟨many,many_lo,many_hi,rfl,hk_w4,hs_w4⟩;replace S:=S.step hk_w4 hs_w4;clear hk_w4 hs_w4;obtain ⟨n,rfl⟩:=Int.eq_ofNat_of_zero_le (show 0≤many by omega);go_wp2_with fail
 refine (ids_any b _ n _ S.g.s (by omega) (by omega) (HP.out.keep S.g.k hPb) hPb).mono ?_;rintro e w5 ⟨v,xs,rfl,hxl,hxs,T⟩;have S5:=S.join T;replace S5:St b (m + 1 + 1 + 1 + 10 * n + 1) w w5 [.loc R tzCs 58,.own rId w4.heap.size 46 v xs]:=S5;obtain ⟨A,c,rfl,S6⟩:=S5.frz 1 rfl;have S:St b (m + 100) w w5 [.loc R tzCs 58,.sl rId A xs]:=S6.mono (by omega);have Hxs:=Lib.hid hxs;have hxl':xs.length≤3:=by omega
 clear T S5 S6 hxs hxl many_lo many_hi;go_wp2_with fail
 refine (fields_any b _ 3 _ S.g.s (by omega) (HN.out.keep S.g.k hNb)).mono ?_;rintro e w6 ⟨v,fs,rfl,ho,hfl,hft,hg⟩;have S5:=S.call hg (.own rFld w5.heap.size 176 v fs) (ho.flatM flatFld) (fun k e=>(ho.lt k e).1);obtain ⟨B,d,rfl,S6⟩:=S5.frz 2 rfl;have S:St b (m + 200) w w6 [.loc R tzCs 58,.sl rId A xs,.sl rFld B fs]:=S6.mono (by omega);have Hft:=Lib.hid hft;clear S5 S6 hft hg ho;obtain ⟨X,hX⟩:∃ X,X=w6.heap.size:=⟨_,rfl⟩;have S5:=S.newAt (tcCs ⟨no,at0,src,xs,fs⟩ A c B d) 58 X hX;replace S:St b (m + 200) w (w6.alloc (.cells (tcCs ⟨no,at0,src,xs,fs⟩ A c B d) 58)) [.loc R tzCs 58,.loc X (tcCs ⟨no,at0,src,xs,fs⟩ A c B d) 58,.sl rId A xs,.sl rFld B fs]:=(S5.perm (List.Perm.cons _ (List.perm_append_comm (l₁:=[Chunk.sl rId A xs,Chunk.sl rFld B fs]) (l₂:=[_]))));clear S5;go_upto_region 2 with fail
 rw [← hX];clear hX;generalize w6.alloc (.cells (tcCs ⟨no,at0,src,xs,fs⟩ A c B d) 58)=w7 at *;go_wp2_with fail
 refine (flip_any b _ _ _ S.g.s (by omega) (by omega) (by omega)).mono ?_;rintro e w7a ⟨r8,rfl,hk_w7a,hs_w7a⟩;replace S:=S.step hk_w7a hs_w7a;clear hk_w7a hs_w7a;cases r8
 ·have y0:=(S.lv 0 rfl).all;have y1:=(S.lv 1 rfl).all;have S9:=((((S.set 0 0 (.int .i64 (Tch.no ⟨no,at0,src,xs,fs⟩)) rfl).set 0 1 (.int .i64 (Tch.at' ⟨no,at0,src,xs,fs⟩)) rfl).set 0 2 (.string (Tch.src ⟨no,at0,src,xs,fs⟩)) rfl).set 0 3 (.slice A (Tch.ids ⟨no,at0,src,xs,fs⟩).length c) rfl).set 0 4 (.slice B fs.length d) rfl;go_wp2_with fail
  exact bodyPost_ret (results_cell1 rfl rfl (loadTc (S9.lv 0 rfl))) rfl ⟨⟨no,at0,src,xs,fs⟩,A,c,B,d,rfl,⟨(by have:=Hno.out;exact ⟨by show _≤no;omega,by show no≤_;omega⟩),(by show src.size≤1000;omega),(by show xs.length≤10;omega),Hxs.out,(by show fs.length≤10;omega),Hft.out⟩,((S9.del 1).del 0).mono (by omega)⟩
 ·go_wp2_with fail
  refine (next_any b _ _ _ S.g.s (by omega) (by omega) (by omega)).mono ?_;rintro e w7b ⟨r5,r5_lo,r5_hi,rfl,hk_w7b,hs_w7b⟩;replace S:=S.step hk_w7b hs_w7b;clear hk_w7b hs_w7b;obtain rfl | rfl | rfl | rfl:r5=0∨r5=1∨r5=2∨r5=3:=by omega
  ·go_wp2_with fail
   refine (odd_any b _ _ _ _ S.g.s (by omega) (by omega) (by omega) (by omega)).mono ?_;rintro e w8 ⟨t6,t6_lo,t6_hi,rfl,hk_w8,hs_w8⟩;replace S:=S.step hk_w8 hs_w8;clear hk_w8 hs_w8;have x0:=(S.lv 1 rfl).all;have S2:St b (m + 500) w (w8.setCell ⟨X,0,none⟩ (.int .i64 t6)) [.loc R tzCs 58,.loc X (tcCs ⟨t6,at0,src,xs,fs⟩ A c B d) 58,.sl rId A xs,.sl rFld B fs]:=(S.set 1 0 (.int .i64 t6) rfl).mono (by omega);go_upto_region 11 with fail
   clear x0 S;generalize w8.setCell ⟨X,0,none⟩ (.int .i64 t6)=w9 at *;have S:=S2;clear S2;have y0:=(S.lv 0 rfl).all;have y1:=(S.lv 1 rfl).all;have S9:=((((S.set 0 0 (.int .i64 (Tch.no ⟨t6,at0,src,xs,fs⟩)) rfl).set 0 1 (.int .i64 (Tch.at' ⟨t6,at0,src,xs,fs⟩)) rfl).set 0 2 (.string (Tch.src ⟨t6,at0,src,xs,fs⟩)) rfl).set 0 3 (.slice A (Tch.ids ⟨t6,at0,src,xs,fs⟩).length c) rfl).set 0 4 (.slice B fs.length d) rfl;go_wp2_with fail
   exact bodyPost_ret (results_cell1 rfl rfl (loadTc (S9.lv 0 rfl))) rfl ⟨⟨t6,at0,src,xs,fs⟩,A,c,B,d,rfl,⟨⟨by show _≤t6;omega,by show t6≤_;omega⟩,(by show src.size≤1000;omega),(by show xs.length≤10;omega),Hxs.out,(by show fs.length≤10;omega),Hft.out⟩,((S9.del 1).del 0).mono (by omega)⟩
  ·go_wp2_with fail
   refine (odd_any b _ _ _ _ S.g.s (by omega) (by omega) (by omega) (by omega)).mono ?_;rintro e w8 ⟨t6,t6_lo,t6_hi,rfl,hk_w8,hs_w8⟩;replace S:=S.step hk_w8 hs_w8;clear hk_w8 hs_w8;have x0:=(S.lv 1 rfl).all;have S2:St b (m + 500) w (w8.setCell ⟨X,1,none⟩ (.int .i64 t6)) [.loc R tzCs 58,.loc X (tcCs ⟨no,t6,src,xs,fs⟩ A c B d) 58,.sl rId A xs,.sl rFld B fs]:=(S.set 1 1 (.int .i64 t6) rfl).mono (by omega);go_upto_region 11 with fail
   clear x0 S;generalize w8.setCell ⟨X,1,none⟩ (.int .i64 t6)=w9 at *;have S:=S2;clear S2;have y0:=(S.lv 0 rfl).all;have y1:=(S.lv 1 rfl).all;have S9:=((((S.set 0 0 (.int .i64 (Tch.no ⟨no,t6,src,xs,fs⟩)) rfl).set 0 1 (.int .i64 (Tch.at' ⟨no,t6,src,xs,fs⟩)) rfl).set 0 2 (.string (Tch.src ⟨no,t6,src,xs,fs⟩)) rfl).set 0 3 (.slice A (Tch.ids ⟨no,t6,src,xs,fs⟩).length c) rfl).set 0 4 (.slice B fs.length d) rfl;go_wp2_with fail
   exact bodyPost_ret (results_cell1 rfl rfl (loadTc (S9.lv 0 rfl))) rfl ⟨⟨no,t6,src,xs,fs⟩,A,c,B,d,rfl,⟨(by have:=Hno.out;exact ⟨by show _≤no;omega,by show no≤_;omega⟩),(by show src.size≤1000;omega),(by show xs.length≤10;omega),Hxs.out,(by show fs.length≤10;omega),Hft.out⟩,((S9.del 1).del 0).mono (by omega)⟩
  ·go_wp2_with fail
   refine (one_le b _ _ _ (10) S.g.s (by first | rfl | simp) (by first | rfl | simp) (strsLe_of (by decide)) (by simp) (by simp) (by omega)).mono ?_;rintro e w8 ⟨t6,t6_le,rfl,hk_w8,hs_w8⟩;replace S:=S.step hk_w8 hs_w8;clear hk_w8 hs_w8;have x0:=(S.lv 1 rfl).all;have S2:St b (m + 500) w (w8.setCell ⟨X,2,none⟩ (.string t6)) [.loc R tzCs 58,.loc X (tcCs ⟨no,at0,t6,xs,fs⟩ A c B d) 58,.sl rId A xs,.sl rFld B fs]:=(S.set 1 2 (.string t6) rfl).mono (by omega);go_upto_region 11 with fail
   clear x0 S;generalize w8.setCell ⟨X,2,none⟩ (.string t6)=w9 at *;have S:=S2;clear S2;have y0:=(S.lv 0 rfl).all;have y1:=(S.lv 1 rfl).all;have S9:=((((S.set 0 0 (.int .i64 (Tch.no ⟨no,at0,t6,xs,fs⟩)) rfl).set 0 1 (.int .i64 (Tch.at' ⟨no,at0,t6,xs,fs⟩)) rfl).set 0 2 (.string (Tch.src ⟨no,at0,t6,xs,fs⟩)) rfl).set 0 3 (.slice A (Tch.ids ⟨no,at0,t6,xs,fs⟩).length c) rfl).set 0 4 (.slice B fs.length d) rfl;go_wp2_with fail
   exact bodyPost_ret (results_cell1 rfl rfl (loadTc (S9.lv 0 rfl))) rfl ⟨⟨no,at0,t6,xs,fs⟩,A,c,B,d,rfl,⟨(by have:=Hno.out;exact ⟨by show _≤no;omega,by show no≤_;omega⟩),(by show t6.size≤1000;omega),(by show xs.length≤10;omega),Hxs.out,(by show fs.length≤10;omega),Hft.out⟩,((S9.del 1).del 0).mono (by omega)⟩
  ·obtain ⟨w8,hw8⟩:∃ w8,w8=w7b:=⟨_,rfl⟩;rw [← hw8] at S ⊢;clear hw8;replace S:St b _ w w8 [.loc R tzCs 58,.loc X (tcCs ⟨no,at0,src,xs,fs⟩ A c B d) 58,.sl rId none [],.sl rFld B fs]:=S.turn 2 rfl (.sl rId none []) rfl Sl.nil;have x0:=(S.lv 1 rfl).all;have S2:St b (m + 500) w (w8.setCell ⟨X,3,none⟩ (.slice none 0 0)) [.loc R tzCs 58,.loc X (tcCs ⟨no,at0,src,[],fs⟩ none 0 B d) 58,.sl rId none [],.sl rFld B fs]:=(S.set 1 3 (.slice none 0 0) rfl).mono (by omega);go_upto_region 11 with fail
   clear x0 S;generalize w8.setCell ⟨X,3,none⟩ (.slice none 0 0)=w9 at *;have S:=S2;clear S2;have y0:=(S.lv 0 rfl).all;have y1:=(S.lv 1 rfl).all;have S9:=((((S.set 0 0 (.int .i64 (Tch.no ⟨no,at0,src,[],fs⟩)) rfl).set 0 1 (.int .i64 (Tch.at' ⟨no,at0,src,[],fs⟩)) rfl).set 0 2 (.string (Tch.src ⟨no,at0,src,[],fs⟩)) rfl).set 0 3 (.slice none (Tch.ids ⟨no,at0,src,[],fs⟩).length 0) rfl).set 0 4 (.slice B fs.length d) rfl;go_wp2_with fail
   exact bodyPost_ret (results_cell1 rfl rfl (loadTc (S9.lv 0 rfl))) rfl ⟨⟨no,at0,src,[],fs⟩,none,0,B,d,rfl,⟨(by have:=Hno.out;exact ⟨by show _≤no;omega,by show no≤_;omega⟩),(by show src.size≤1000;omega),Nat.zero_le _,(fun x hx=>by cases hx),(by show fs.length≤10;omega),Hft.out⟩,((S9.del 1).del 0).mono (by omega)⟩
end
end Go.Proofs.YtmkkppknaikjjaaGreatDoor
