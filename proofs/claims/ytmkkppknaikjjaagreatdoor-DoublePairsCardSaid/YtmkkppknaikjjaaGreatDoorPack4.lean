/- Several texts in one: SymLaw, Meas, Alike, Alike2, PtsLaw, DblLaw, Score, DblLaw2, RecQ, DblMem. -/
import Derived.Test.YtmkkppknaikjjaaGreatDoorPack3
/- Stable sorting by insertion and by merging in place: the plain law. -/
set_option maxHeartbeats 4000000
set_option maxRecDepth 100000
open Go.Lib renaming hid→Z9, compareInt→ZL
open List renaming getElem?_eq_getElem→Z8, mem_of_getElem?→Z7, length_append→Z4, getElem?_set_self→ZY, length_map→ZW, length_cons→ZV, length_set→ZU, length_take→ZR, map_append→ZP, append_assoc→ZM, length_drop→ZK, drop_eq_nil_of_le→ZJ, getElem?_eq_none→ZG, getElem?_append_right→ZF, set_set→ZB, drop_eq_getElem_cons→Zz, getElem?_append_left→Zy, getElem?_set→Zv, ext_getElem?→Zu, map_cons→Zt, mem_cons_of_mem→Zq, getElem_of_mem→Zn, foldl_cons→Zk, mem_append_left→Za, mem_cons_self→Y2, set_append_right→YZ, range→YW, mem_cons→YU, pairwise_singleton→YS, take_append_drop→YK, not_mem_nil→YI
open Nat renaming le_refl→Z5, zero_le→ZN, le_trans→ZE, min_eq_left→Zl, zero_add→Zh, succ_mul→YV
open Go.RowKit.Below renaming refl→ZX
open Int renaming eq_ofNat_of_zero_le→Zi
namespace Go.Proofs.YtmkkppknaikjjaaGreatDoor
section
open Go Go.RowKit
section
variable {α:Type}
def TB (c:α→α→Int)(ix:α→Nat)(a b:α):Prop:=c a b < 0∨(c a b=0∧ix a < ix b)
variable {c:α→α→Int} {ix:α→Nat}
theorem TB.le {a b:α}(h:TB c ix a b):c a b≤0:=by
 rcases h with h | h <;> omega
theorem TB.trans (hc:fC c){a b d:α}(h1:TB c ix a b)(h2:TB c ix b d):TB c ix a d:=by
 rcases h1 with h1 | ⟨h1,h3⟩
 ·exact .inl (hc.lt h1 h2.le)
 ·rcases h2 with h2 | ⟨h2,h4⟩
  ·exact .inl (hc.lt' (by omega) h2)
  ·have h5:=hc.trans a b d (by omega) (by omega);have h6:=hc.trans d b a (by have:=hc.zero h2;omega) (by have:=hc.zero h1;omega);have h7:=hc.anti a d;have h8:=hc.anti d a;exact .inr ⟨by omega,by omega⟩
theorem TB.EY (hc:fC c)(a:α):¬ TB c ix a a:=by
 have:=hc.anti a a
 rintro (h | h) <;> omega
theorem TB.of {a b:α}(hc:fC c)(h:¬ c b a < 0)(hi:ix a < ix b):TB c ix a b:=by
 have h1:=hc.anti a b;have h2:=hc.anti b a;rcases Int.lt_or_le (c a b) 0 with h3 | h3
 ·exact .inl h3
 ·exact .inr ⟨by omega,hi⟩
def qO (ix:α→Nat)(L R:List α):Prop:=∀ x∈L,∀ y∈R,ix x < ix y
def EZ (c:α→α→Int)(ix:α→Nat)(L R:List α):Prop:=∀ x∈L,∀ y∈R,TB c ix x y
theorem IB (hc:fC c){L R:List α}(hL:L.Pairwise (TB c ix))(hR:R.Pairwise (TB c ix))(h:∀ x y,L.getLast? =some x→R.head? =some y→TB c ix x y):EZ c ix L R:=fun x hx y hy=>by
 cases R with
 | nil=>cases hy
 | cons r R =>
  cases hL2:L.getLast? with
  | none=>rw [List.getLast?_eq_none_iff] at hL2;subst hL2;cases hx
  | some l =>
   have h1:=h l r hL2 rfl;have h2:TB c ix x r:=by
    obtain ⟨L',rfl⟩:=List.getLast?_eq_some_iff.1 hL2;rcases List.mem_append.1 hx with hx | hx
    ·exact ((List.pairwise_append.1 hL).2.2 x hx l (List.mem_singleton.2 rfl)).trans hc h1
    ·rw [List.mem_singleton.1 hx];exact h1
   rcases List.mem_cons.1 hy with rfl | hy
   ·exact h2
   ·exact h2.trans hc ((List.pairwise_cons.1 hR).1 y hy)
theorem Xg (hc:fC c){L1 L2 R1 R2 M1 M2:List α}(hL:(L1++L2).Pairwise (TB c ix))(hR:(R1++R2).Pairwise (TB c ix))(hB:qO ix (L1++L2) (R1++R2))
  (h1:∀ x y,L1.getLast? =some x→R2.head? =some y→¬ c y x < 0) (h2:∀ y x,R1.getLast? =some y→L2.head? =some x→c y x < 0)
  (p1:M1.Perm (L1++R1)) (s1:M1.Pairwise (TB c ix)) (p2:M2.Perm (L2++R2)) (s2:M2.Pairwise (TB c ix)):(M1++M2).Perm (L1++L2++(R1++R2))∧(M1++M2).Pairwise (TB c ix):=by
 obtain ⟨l1,l2,l3⟩:=List.pairwise_append.1 hL;obtain ⟨r1,r2,r3⟩:=List.pairwise_append.1 hR;refine ⟨(p1.append p2).trans ?_,List.pairwise_append.2 ⟨s1,s2,fun x hx y hy=>?_⟩⟩
 ·rw [ZM,ZM];refine List.Perm.append_left _ ?_;rw [← ZM,← ZM];exact List.Perm.append_right _ List.perm_append_comm
 ·have a1:EZ c ix L1 R2:=IB hc l1 r2 (fun x y hx hy=>TB.of hc (h1 x y hx hy) (hB x (Za _ (List.mem_of_getLast? hx)) y (List.mem_append_right _ (List.mem_of_head? hy))));have a2:EZ c ix R1 L2:=IB hc r1 l2 (fun y x hy hx=>.inl (h2 y x hy hx));rcases List.mem_append.1 (p1.mem_iff.1 hx) with hx | hx <;> rcases List.mem_append.1 (p2.mem_iff.1 hy) with hy | hy
  ·exact l3 x hx y hy
  ·exact a1 x hx y hy
  ·exact a2 x hx y hy
  ·exact r3 x hx y hy
theorem ael (hc:fC c){x:α}{R1 R2:List α}(hR:(R1++R2).Pairwise (TB c ix))(hB:qO ix [x] (R1++R2))
  (h1:∀ y,R2.head? =some y→¬ c y x < 0) (h2:∀ y,R1.getLast? =some y→c y x < 0):(R1++x::R2).Perm ([x]++(R1++R2))∧(R1++x::R2).Pairwise (TB c ix):=by
 obtain ⟨r1,r2,r3⟩:=List.pairwise_append.1 hR;have a1:EZ c ix [x] R2:=IB hc (YS _ _) r2 (fun z y hz hy=>by
  simp only [List.getLast?_singleton,Option.some.injEq] at hz;subst hz;exact TB.of hc (h1 y hy) (hB x (List.mem_singleton.2 rfl) y (List.mem_append_right _ (List.mem_of_head? hy))))
 have:=Xg (L1:=[]) (L2:=[x]) (M1:=R1) (M2:=x::R2) hc (YS _ _) hR hB (fun z y hz=>by simp at hz) (fun y z hy hz=>by
  simp only [List.head?_cons,Option.some.injEq] at hz;subst hz;exact h2 y hy) (.refl _) r1 (.refl _) (List.pairwise_cons.2 ⟨fun y hy=>a1 x (List.mem_singleton.2 rfl) y hy,r2⟩)
 exact this
theorem LZ (hc:fC c){y:α}{L1 L2:List α}(hL:(L1++L2).Pairwise (TB c ix))(hB:qO ix (L1++L2) [y])
  (h1:∀ x,L1.getLast? =some x→¬ c y x < 0) (h2:∀ x,L2.head? =some x→c y x < 0):(L1++y::L2).Perm (L1++L2++[y])∧(L1++y::L2).Pairwise (TB c ix):=by
 obtain ⟨l1,l2,l3⟩:=List.pairwise_append.1 hL;have a1:EZ c ix L1 [y]:=IB hc l1 (YS _ _) (fun x z hx hz=>by
  simp only [List.head?_cons,Option.some.injEq] at hz;subst hz;exact TB.of hc (h1 x hx) (hB x (Za _ (List.mem_of_getLast? hx)) y (List.mem_singleton.2 rfl)))
 have a2:EZ c ix [y] L2:=IB hc (YS _ _) l2 (fun z x hz hx=>by
  simp only [List.getLast?_singleton,Option.some.injEq] at hz;subst hz;exact .inl (h2 x hx))
 refine ⟨by rw [ZM];exact List.Perm.append_left _ (List.perm_append_comm (l₁:=[y])),List.pairwise_append.2 ⟨l1,List.pairwise_cons.2 ⟨fun x hx=>a2 y (List.mem_singleton.2 rfl) x hx,l2⟩,fun x hx z hz=>?_⟩⟩;rcases List.mem_cons.1 hz with rfl | hz
 ·exact a1 x hx _ (List.mem_singleton.2 rfl)
 ·exact l3 x hx z hz
def oC (xs ys:List α)(a b i:Nat):Prop:=ys.length=xs.length∧∀ t,ys[t]? =if a≤t∧t < a + i then xs[b + (t - a)]? else if b≤t∧t < b + i then xs[a + (t - b)]? else xs[t]?
theorem oC.start (xs:List α)(a b:Nat):oC xs xs a b 0:=⟨rfl,fun t=>by rw [if_neg (by omega),if_neg (by omega)]⟩
theorem oC.next {xs ys:List α}{a b i n:Nat}{x y:α}(h:oC xs ys a b i)(hn:i < n)(hab:a + n≤b)(hx:ys[a + i]? =some x)(hy:ys[b + i]? =some y):oC xs ((ys.set (a + i) y).set (b + i) x) a b (i + 1):=by
 have ha:=bM hx;have hb:=bM hy;refine ⟨by rw [ZU,ZU,h.1],fun t=>?_⟩;have hx2:=h.2 (a + i);have hy2:=h.2 (b + i);rw [if_neg (by omega),if_neg (by omega)] at hx2;rw [if_neg (by omega),if_neg (by omega)] at hy2;rw [Zv,ZU,Zv];by_cases e1:b + i=t
 ·subst e1;rw [if_pos rfl,if_pos (by omega),if_neg (by omega),if_pos (by omega),show a + (b + i - b)=a + i by omega,← hx2,hx]
 ·rw [if_neg e1];by_cases e2:a + i=t
  ·subst e2;rw [if_pos rfl,if_pos (by omega),if_pos (by omega),show b + (a + i - a)=b + i by omega,← hy2,hy]
  ·rw [if_neg e2,h.2 t];by_cases e3:a≤t∧t < a + i
   ·rw [if_pos e3,if_pos ⟨e3.1,by omega⟩]
   ·rw [if_neg e3];by_cases e4:b≤t∧t < b + i
    ·rw [if_pos e4,if_neg (by omega),if_pos ⟨e4.1,by omega⟩]
    ·rw [if_neg e4,if_neg (by omega),if_neg (by omega)]
theorem oC.done {P A Q B S ys:List α}(h:oC (P++A++Q++B++S) ys P.length (P.length + A.length + Q.length) A.length)(hl:A.length=B.length):ys=P++B++Q++A++S:=by
 refine Zu fun t=>?_;rw [h.2 t];simp only [ZM,List.getElem?_append];by_cases h1:t < P.length
 ·rw [if_neg (by omega),if_neg (by omega)];simp only [if_pos h1]
 ·simp only [if_neg h1];by_cases h2:t < P.length + A.length
  ·rw [if_pos (by omega),if_neg (by omega),if_neg (by omega),if_neg (by omega),if_pos (by omega),if_pos (by omega)];congr 1
   omega
  ·rw [if_neg (by omega),if_neg (by omega:¬ (t - P.length < A.length))];by_cases h3:t < P.length + A.length + Q.length
   ·rw [if_neg (by omega),if_pos (by omega),if_neg (by omega),if_pos (by omega)];congr 1
    omega
   ·by_cases h4:t < P.length + A.length + Q.length + A.length
    ·rw [if_pos (by omega),if_neg (by omega),if_pos (by omega),if_neg (by omega),if_neg (by omega),if_pos (by omega)];congr 1
     omega
    ·rw [if_neg (by omega),if_neg (by omega),if_neg (by omega),if_neg (by omega),if_neg (by omega),if_neg (by omega)];congr 1
     omega
theorem aem (P S:List α)(x y:α):((P++x::y::S).set P.length y).set (P.length + 1) x=P++y::x::S:=by
 rw [YZ _ _ (Z5 _),YZ _ _ (by omega),Nat.sub_self,show P.length + 1 - P.length=1 by omega];rfl
theorem Xh (P S:List α)(x y:α):((P++x::y::S).set (P.length + 1) x).set P.length y=P++y::x::S:=by
 rw [YZ _ _ (by omega),YZ _ _ (Z5 _),Nat.sub_self,show P.length + 1 - P.length=1 by omega];rfl
def pI (Z:List α)(m:Nat)(i j:Nat)(zs:List α)(P:Nat):Prop:=∃ Q A B R,zs=Q++A++B++R∧A.length=i∧B.length=j∧Q.length + i=m∧Q++(B++A)++R=Z∧P≤Q.length
theorem pI.start (P X Y S:List α):pI (P++Y++X++S) (P.length + X.length) X.length Y.length (P++X++Y++S) P.length:=⟨P,X,Y,S,rfl,rfl,rfl,rfl,by simp,Z5 _⟩
theorem pI.done {Z zs:List α}{m i P:Nat}(h:pI Z m i i zs P):∃ Q A B R,zs=Q++A++[]++B++R∧A.length=i∧B.length=i∧Q.length + i=m∧Q++B++[]++A++R=Z:=by
 obtain ⟨Q,A,B,R,rfl,hA,hB,hm,rfl,_⟩:=h;exact ⟨Q,A,B,R,by simp,hA,hB,hm,by simp⟩
theorem pI.more {Z zs:List α}{m i j P:Nat}(h:pI Z m i j zs P)(hij:j < i):∃ Q A A' B R,zs=Q++A++A'++B++R∧A.length=j∧B.length=j∧Q.length + i=m∧A'.length=i - j∧pI Z m (i - j) j (Q++B++A'++A++R) P:=by
 obtain ⟨Q,A,B,R,rfl,hA,hB,hm,rfl,hP⟩:=h;refine ⟨Q,A.take j,A.drop j,B,R,by simp [ZM],by rw [ZR];omega,hB,hm,by rw [ZK];omega,Q++B,A.drop j,A.take j,R,by simp,by rw [ZK];omega,by rw [ZR];omega,by rw [Z4];omega,by simp,by rw [Z4];omega⟩
theorem pI.less {Z zs:List α}{m i j P:Nat}(h:pI Z m i j zs P)(hij:i < j):∃ Q A B' B R,zs=Q++A++B'++B++R∧A.length=i∧B.length=i∧Q.length + i=m∧B'.length=j - i∧pI Z m i (j - i) (Q++B++B'++A++R) P:=by
 obtain ⟨Q,A,B,R,rfl,hA,hB,hm,rfl,hP⟩:=h;have h1:B.take (j - i)++B.drop (j - i)=B:=YK _ _;refine ⟨Q,A,B.take (j - i),B.drop (j - i),R,?_,hA,by rw [ZK];omega,hm,by rw [ZR];omega,Q,B.drop (j - i),B.take (j - i),A++R,by simp,by rw [ZK];omega,by rw [ZR];omega,hm,?_,hP⟩
 ·rw [ZM (Q++A) (List.take (j - i) B),h1]
 ·rw [h1];simp
theorem IC (L:List α)(k:Nat)(h:k≤L.length):∃ A B,L=A++B∧A.length=k:=⟨L.take k,L.drop k,(YK _ _).symm,by rw [ZR];omega⟩
theorem last_at {A B:List α}{x:α}(h:A.getLast? =some x):(A++B)[A.length - 1]? =some x∧0 < A.length:=by
 cases A with
 | nil=>cases h
 | cons a A=> 
  rw [List.getLast?_eq_getElem?] at h;rw [Zy (by simp),h];exact ⟨rfl,by simp⟩
theorem aen {A B:List α}{x:α}(h:B.head? =some x):(A++B)[A.length]? =some x:=by
 rw [ZF (Z5 _),Nat.sub_self,← List.head?_eq_getElem?,h]
end
end
section
open Go.RowKit
structure cu where
 name:ByteArray
 how:Int
 far:Int
 pts:Int
def cu.cells (f:cu):List Value:=[.string f.name,.int .i64 f.how,.int .i64 f.far,.int .i64 f.pts]
def lK:Rep cu:=.flat 4 cu.cells (fun _=>rfl)
def qP:List cu→Int
 | []=>0
 | m::r=>if L.isKey m.name=false then 5 else if ¬ (1≤m.how∧m.how≤3) then 4 else
  if ¬ ((if m.how=1 then m.far=0 else 1≤m.far∧m.far≤20)∧(-1000≤m.pts∧m.pts≤1000)) then 1 else qP r
def lN (l:List cu):Int:=if l.length=0 then 3 else if 20 < l.length then 2 else qP l
theorem Sl.meas {N:Nat→Prop}{w:World}{A:Option Addr}{xs:List cu}(h:Sl lK N w A xs)(k:Nat)(f:cu)(hk:xs[k]? =some f):∃ blk off,A=some ⟨blk,off,none⟩∧blk < w.heap.size ∧
  w.cell? ⟨blk,off + k * 4,none⟩=some (.string f.name)∧w.cell? ⟨blk,off + k * 4 + 1,none⟩=some (.int .i64 f.how)∧w.cell? ⟨blk,off + k * 4 + 2,none⟩=some (.int .i64 f.far)∧w.cell? ⟨blk,off + k * 4 + 3,none⟩=some (.int .i64 f.pts):=by
 obtain ⟨blk,off,l,e,h1,_,h3,h4⟩:=h k f hk;obtain rfl:l=cu.cells f:=h3;exact ⟨blk,off,e,h1,h4 0 _ rfl,h4 1 _ rfl,h4 2 _ rfl,h4 3 _ rfl⟩
theorem aeo (N:Nat→Prop)(A:Option Addr)(xs:List cu)(c:Nat)(w:World)(hS:Sl lK N w A xs)(hsm:∀ f∈xs,f.name.size≤1000000000)(hn:xs.length≤1000000000) :
  Calls Tryz.prog 52 #[.slice A xs.length c] w fun e w'=>e=.returned (.int .i64 (lN xs))∧Below w.heap.size w w':=by
 have HS:=Z9 hS;have Hsm:=Z9 hsm;clear hS hsm;obtain ⟨R,HR⟩:∃ R,Hid (lN xs=R):=⟨_,Z9 rfl⟩;rw [HR.out];by_cases h0:xs.length=0
 ·have h0':((xs.length:Int)==0)=true:=by simpa using h0
  have HR2:Hid (3=R):=by show _=_;rw [← HR.out,lN,if_pos h0]
  clear HR;go_enter Tryz.func52,Tryz.ntmps52
  go_wp2_with fail
  go_ret;exact ⟨aH (by rw [← HR2.out]),ZX _ _⟩
 ·have h0':((xs.length:Int)==0)=false:=by simpa using h0
  by_cases h20:20 < xs.length
  ·go_enter Tryz.func52,Tryz.ntmps52
   go_wp2_with fail
   go_ret;exact ⟨aH (by rw [← HR.out,lN,if_neg h0,if_pos h20]),ZX _ _⟩
  ·have HR2:Hid (qP xs=R):=by show _=_;rw [← HR.out,lN,if_neg h0,if_neg h20]
   clear HR;go_enter Tryz.func52,Tryz.ntmps52
   go_wp2_with fail
   go_loopw [17] (fun i wr=>∃ k:Nat,k≤xs.length∧i=.int .i64 k∧qP (xs.drop k)=R∧Below w.heap.size w wr) (fun i _=>xs.length - (intOf i).toNat)
   case atStart=>exact ⟨0,ZN _,rfl,HR2.out,ZX _ _⟩
   case round =>
    clear HR2;obtain ⟨k,hk,rfl,hr,hbl⟩:=hrel;have Hr:=Z9 hr;clear hr;by_cases hlt:k < xs.length
    ·obtain ⟨f,hf⟩:∃ f,xs[k]? =some f:=⟨_,Z8 hlt⟩;obtain ⟨blk,off,rfl,hblk,c0,c1,c2,c3⟩:=HS.out.meas k f hf;have d0:=(hbl.cell (p:=⟨blk,off + k * 4,none⟩) hblk).trans c0;have d1:=(hbl.cell (p:=⟨blk,off + k * 4 + 1,none⟩) hblk).trans c1;have d2:=(hbl.cell (p:=⟨blk,off + k * 4 + 2,none⟩) hblk).trans c2;have d3:=(hbl.cell (p:=⟨blk,off + k * 4 + 3,none⟩) hblk).trans c3;have yg:f.name.size≤1000000000:=Hsm.out f (Z7 hf);have bP:Hid (qP (f::xs.drop (k + 1))=R):=by
      show _=_;rw [← Hr.out,Zz hlt];have:xs[k]=f:=by simpa [Z8 hlt] using hf
      rw [this]
     clear Hr c0 c1 c2 c3 hf;have Hb1:Hid (Below w.heap.size w (wr.alloc (.cells #[.string f.name,.int .i64 f.how,.int .i64 f.far,.int .i64 f.pts] 96))):=hbl.alloc hbl.size _;have hsz:=hbl.size;obtain ⟨K,HK⟩:∃ K,Hid (L.isKey f.name=K):=⟨_,Z9 rfl⟩;have uM:Hid (∀ w,Calls Tryz.prog 113 #[.string f.name] w fun e w'=>e=.returned (.bool K)∧w=w'):=fun w=>HK.out ▸ E5 f.name w yg;obtain ⟨nm,hw,fr,pt⟩:=f;dsimp only at *
     go_wp2_with (first | (go_at_call 113;refine (uM.out _).mono ?_;rintro e _ ⟨rfl,rfl⟩) | (go_at_call 53;refine (nN _ _ _ _).mono ?_;rintro e _ ⟨rfl,rfl⟩))
     all_goals first
      | (go_ret
         refine ⟨aH ?_,Hb1.out⟩;rw [← bP.out,qP,HK.out];clear bP HS Hsm uM Hb1;dsimp only
         first
          | (simp_all;done)
          | (simp_all;omega)
          | (simp_all;intros;omega))
      | (go_roundw
         case rel =>
          refine ⟨k + 1,by omega,by go_num,?_,Hb1.out⟩;rw [← bP.out,qP,HK.out];clear bP HS Hsm uM Hb1;dsimp only
          first
           | (simp_all;done)
           | (simp_all;omega)
           | (simp_all;intros;omega)
         case measure=>simp [intOf];omega)
    ·go_wp2_with fail
     go_ret;exact ⟨aH (by rw [← Hr.out,ZJ (by omega)];rfl),hbl⟩
theorem adE (N:Nat→Prop)(A:Option Addr)(xs:List cu)(c:Nat)(w:World)(hS:Sl lK N w A xs)(hsm:∀ f∈xs,f.name.size≤1000000000)(hn:xs.length≤1000000000) :
  Calls Tryz.prog 11 #[.slice A xs.length c] w fun e w'=>e=.returned (.int .i64 (lN xs))∧Below w.heap.size w w':=by
 have HS:=Z9 hS;have Hsm:=Z9 hsm;clear hS hsm;obtain ⟨R,HR⟩:∃ R,Hid (lN xs=R):=⟨_,Z9 rfl⟩;rw [HR.out];by_cases h0:xs.length=0
 ·have h0':((xs.length:Int)==0)=true:=by simpa using h0
  have HR2:Hid (3=R):=by show _=_;rw [← HR.out,lN,if_pos h0]
  clear HR;go_enter Tryz.func11,Tryz.ntmps11
  go_wp2_with fail
  go_ret;exact ⟨aH (by rw [← HR2.out]),ZX _ _⟩
 ·have h0':((xs.length:Int)==0)=false:=by simpa using h0
  by_cases h20:20 < xs.length
  ·go_enter Tryz.func11,Tryz.ntmps11
   go_wp2_with fail
   go_ret;exact ⟨aH (by rw [← HR.out,lN,if_neg h0,if_pos h20]),ZX _ _⟩
  ·have HR2:Hid (qP xs=R):=by show _=_;rw [← HR.out,lN,if_neg h0,if_neg h20]
   clear HR;go_enter Tryz.func11,Tryz.ntmps11
   go_wp2_with fail
   go_loopw [13] (fun i wr=>∃ k:Nat,k≤xs.length∧i=.int .i64 k∧qP (xs.drop k)=R∧Below w.heap.size w wr) (fun i _=>xs.length - (intOf i).toNat)
   case atStart=>exact ⟨0,ZN _,rfl,HR2.out,ZX _ _⟩
   case round =>
    clear HR2;obtain ⟨k,hk,rfl,hr,hbl⟩:=hrel;have Hr:=Z9 hr;clear hr;by_cases hlt:k < xs.length
    ·obtain ⟨f,hf⟩:∃ f,xs[k]? =some f:=⟨_,Z8 hlt⟩;obtain ⟨blk,off,rfl,hblk,c0,c1,c2,c3⟩:=HS.out.meas k f hf;have d0:=(hbl.cell (p:=⟨blk,off + k * 4,none⟩) hblk).trans c0;have d1:=(hbl.cell (p:=⟨blk,off + k * 4 + 1,none⟩) hblk).trans c1;have d2:=(hbl.cell (p:=⟨blk,off + k * 4 + 2,none⟩) hblk).trans c2;have d3:=(hbl.cell (p:=⟨blk,off + k * 4 + 3,none⟩) hblk).trans c3;have yg:f.name.size≤1000000000:=Hsm.out f (Z7 hf);have bP:Hid (qP (f::xs.drop (k + 1))=R):=by
      show _=_;rw [← Hr.out,Zz hlt];have:xs[k]=f:=by simpa [Z8 hlt] using hf
      rw [this]
     clear Hr c0 c1 c2 c3 hf;have Hb1:Hid (Below w.heap.size w (wr.alloc (.cells #[.string f.name,.int .i64 f.how,.int .i64 f.far,.int .i64 f.pts] 96))):=hbl.alloc hbl.size _;have hsz:=hbl.size;obtain ⟨K,HK⟩:∃ K,Hid (L.isKey f.name=K):=⟨_,Z9 rfl⟩;have uM:Hid (∀ w,Calls Tryz.prog 61 #[.string f.name] w fun e w'=>e=.returned (.bool K)∧Below w.heap.size w w'):=fun w=>HK.out ▸ E8 f.name w yg;obtain ⟨nm,hw,fr,pt⟩:=f;dsimp only at *
     go_wp2_with (first | (go_at_call 61;refine (uM.out _).mono ?_;rintro e wk ⟨rfl,hlk⟩;have q:=fun j=>hlk.cell (p:=⟨wr.heap.size,j,none⟩) (by simp);have q1:=(q 1).trans (World.cell?_alloc_at _ _ _ _ rfl);have q2:=(q 2).trans (World.cell?_alloc_at _ _ _ _ rfl);have q3:=(q 3).trans (World.cell?_alloc_at _ _ _ _ rfl);clear q) | (go_at_call 62;refine (iY _ _ _ _).mono ?_;rintro e _ ⟨rfl,rfl⟩))
     all_goals first
      | (go_ret
         refine ⟨aH ?_,(Hb1.out.trans (hlk.mono (by simp;omega)))⟩;rw [← bP.out,qP,HK.out];clear bP HS Hsm uM Hb1;dsimp only
         first
          | (simp_all;done)
          | (simp_all;omega)
          | (simp_all;intros;omega))
      | (go_roundw
         case rel =>
          refine ⟨k + 1,by omega,by go_num,?_,(Hb1.out.trans (hlk.mono (by simp;omega)))⟩;rw [← bP.out,qP,HK.out];clear bP HS Hsm uM Hb1;dsimp only
          first
           | (simp_all;done)
           | (simp_all;omega)
           | (simp_all;intros;omega)
         case measure=>simp [intOf];omega)
    ·go_wp2_with fail
     go_ret;exact ⟨aH (by rw [← Hr.out,ZJ (by omega)];rfl),hbl⟩
end
section
open Go.RowKit
def Xi (w:World)(aa:Option Addr)(a:List Int):Prop :=
 ∀ i,i < a.length→∃ blk off x,aa=some ⟨blk,off,none⟩∧blk < w.heap.size∧a[i]? =some x∧w.cell? ⟨blk,off + i,none⟩=some (.int .i32 x)
theorem aep (aa ab:Option Addr)(a b:List Int)(ca cb:Nat)(w:World)(ha:Xi w aa a)(hb:Xi w ab b)(hna:a.length≤100000000)(_hnb:b.length≤100000000) :
  Calls Tryz.prog 204 #[.slice aa a.length ca,.slice ab b.length cb] w fun e w'=>e=.returned (.bool (a==b))∧Below w.heap.size w w':=by
 have Ha:=Z9 ha;have Hb:=Z9 hb;clear ha hb;go_enter Tryz.func204,Tryz.ntmps204
 by_cases hl:a.length=b.length
 ·have hl':((a.length:Int)=(b.length:Int)):=by omega
  go_wp2_with fail
  go_loopw [13] (fun i wr=>∃ k:Nat,k≤a.length∧i=.int .i64 k∧(∀ p,p < k→a[p]? =b[p]?)∧Below w.heap.size w wr) (fun i _=>a.length - (intOf i).toNat)
  case atStart=>exact ⟨0,by omega,rfl,(fun p h=>by omega),ZX _ _⟩
  case round =>
   obtain ⟨k,hk,rfl,hp,hbl⟩:=hrel;have Hp:=Z9 hp;clear hp;by_cases hlt:k < a.length
   ·obtain ⟨blk,off,x,rfl,hblk,hx,hc⟩:=Ha.out k hlt;obtain ⟨blk',off',y,rfl,hblk',hy,hc'⟩:=Hb.out k (by omega);have d:=(hbl.cell (p:=⟨blk,off + k,none⟩) hblk).trans hc;have d':=(hbl.cell (p:=⟨blk',off' + k,none⟩) hblk').trans hc';have Hx:=Z9 hx;have Hy:=Z9 hy;clear hc hc' hx hy;by_cases hxy:x=y
    ·subst hxy;go_wp2_with fail
     go_quiet (fail)
     go_wp2_with fail
     go_roundw
     case rel =>
      refine ⟨k + 1,by omega,by go_num,fun p h=>?_,hbl.trans (below_drewN _ _ _)⟩;by_cases hpk:p=k
      ·subst hpk;rw [Hx.out,Hy.out]
      ·exact Hp.out p (by omega)
     case measure=>simp [intOf];omega
    ·go_wp2_with fail
     go_quiet (fail)
     go_wp2_with fail
     go_ret;refine ⟨fM ?_,hbl.trans (below_drewN _ _ _)⟩;symm
     rw [beq_eq_false_iff_ne];intro h;have h1:=Hx.out;rw [h,Hy.out] at h1;exact hxy (Option.some.inj h1).symm
   ·go_wp2_with fail
    go_ret;refine ⟨fM ?_,hbl⟩;symm
    rw [beq_iff_eq];apply Zu;intro p;by_cases h:p < k
    ·exact Hp.out p h
    ·rw [ZG (by omega),ZG (by omega)]
 ·have hl':¬ ((a.length:Int)=(b.length:Int)):=by omega
  go_wp2_with fail
  go_ret;refine ⟨fM ?_,ZX _ _⟩;symm
  rw [beq_eq_false_iff_ne];intro h;exact hl (by rw [h])
end
section
open Go.RowKit
def fZ (t:ByteArray):List Int:=pts t.size t
def qm (m:cu)(k1:Int)(t1:ByteArray)(n1:Int)(k2:Int)(t2:ByteArray)(n2:Int):Bool :=
 if m.how=1 then decide (k1=k2∧t1.toList=t2.toList∧n1=n2)
 else if ¬ (k1=1∧k2=1) then false
 else if m.how=2 then decide (far t1 t2≤m.far)
 else decide (m.far≤(fZ t1).length) && decide (m.far≤(fZ t2).length) && ((fZ t1).take m.far.toNat==(fZ t2).take m.far.toNat)
def mV (X:Nat)(m:cu)(k1:Int)(t1:ByteArray)(n1:Int)(k2:Int)(t2:ByteArray)(n2:Int)(w:World):Prop :=
 LV w X #[.string m.name,.int .i64 m.how,.int .i64 m.far,.int .i64 m.pts] 96∧LV w (X + 1) #[.int .i64 k1,.string t1,.int .i64 n1] 174∧LV w (X + 2) #[.int .i64 k2,.string t2,.int .i64 n2] 174
def zI (w:World)(m:cu)(k1:Int)(t1:ByteArray)(n1:Int)(k2:Int)(t2:ByteArray)(n2:Int):World :=
 ((w.alloc (.cells #[.string m.name,.int .i64 m.how,.int .i64 m.far,.int .i64 m.pts] 96)).alloc (.cells #[.int .i64 k1,.string t1,.int .i64 n1] 174)).alloc (.cells #[.int .i64 k2,.string t2,.int .i64 n2] 174)
theorem Xj (w:World)(m:cu)(k1:Int)(t1:ByteArray)(n1:Int)(k2:Int)(t2:ByteArray)(n2:Int):mV w.heap.size m k1 t1 n1 k2 t2 n2 (zI w m k1 t1 n1 k2 t2 n2) :=
 ⟨((LV.new w w.heap.size _ 96 rfl).alloc _).alloc _,(LV.new (w.alloc _) (w.heap.size + 1) _ 174 (by simp)).alloc _,LV.new ((w.alloc _).alloc _) (w.heap.size + 2) _ 174 (by simp)⟩
theorem Xk (w:World)(m:cu)(k1:Int)(t1:ByteArray)(n1:Int)(k2:Int)(t2:ByteArray)(n2:Int):Below w.heap.size w (zI w m k1 t1 n1 k2 t2 n2) :=
 (((ZX _ _).alloc (Z5 _) _).alloc (by simp) _).alloc (by simp;omega) _
theorem mV.below {X:Nat}{m:cu}{k1 k2 n1 n2:Int}{t1 t2:ByteArray}{w w':World}(h:mV X m k1 t1 n1 k2 t2 n2 w)(hb:Below w.heap.size w w'):mV X m k1 t1 n1 k2 t2 n2 w' :=
 ⟨(hb.block _ h.1.lt).trans h.1,(hb.block _ h.2.1.lt).trans h.2.1,(hb.block _ h.2.2.lt).trans h.2.2⟩
theorem below3 (w:World)(o1 o2 o3:Obj):Below w.heap.size w (((w.alloc o1).alloc o2).alloc o3):=(((ZX _ _).alloc (Z5 _) _).alloc (by simp) _).alloc (by simp;omega) _
theorem mV.zJ {X:Nat}{m:cu}{k1 k2 n1 n2:Int}{t1 t2:ByteArray}{w:World}(h:mV X m k1 t1 n1 k2 t2 n2 w):(Instr.loadAt 3 (.pointer (some ⟨X,2,none⟩))).run Tryz.prog w=.ok (.int .i64 m.far) w:=by
 have c:w.cell? ⟨X,2,none⟩=some (.int .i64 m.far):=h.1.cell 2 _ rfl;go_simp
theorem zK {w:World}{B E:Nat}{v:Value}{l:List Value}{n:Nat}(h:w.ownsRow B E 1 v n l):∃ A c,v=.slice A n c:=by
 rcases h.2 with ⟨rfl,h0⟩ | ⟨g,cap,cur,rfl,_⟩
 ·exact ⟨none,0,by rw [h0]⟩
 ·exact ⟨_,cap,rfl⟩
theorem L6 {w:World}{B E:Nat}{v:Value}{l:List Value}{n:Nat}(h:w.ownsRow B E 1 v n l)(hn:1≤n):∃ g cap,v=.slice (some ⟨g,0,none⟩) n cap∧n≤cap∧g < w.heap.size∧∀ i u,l[i]? =some u→w.cell? ⟨g,i,none⟩=some u:=by
 have hlt:=h.lt;have hcs:=fun g=>h.cells (g:=g);rcases h.2 with ⟨rfl,h0⟩ | ⟨g,cap,cur,rfl,hB,hg,h5,_⟩
 ·omega
 ·refine ⟨g,cap,rfl,h5,(hlt g rfl).2,fun i u hu=>?_⟩;have:=hcs g rfl i u hu
  rwa [qN,Zh] at this
theorem alike_any (m:cu)(k1 n1 k2 n2:Int)(t1 t2:ByteArray)(w:World)(hT:Tabs w)(ht1:t1.size≤200)(ht2:t2.size≤200)(IE:m.how≠1→1≤m.far∧m.far≤20) :
  Calls Tryz.prog 124 #[.agg #[.string m.name,.int .i64 m.how,.int .i64 m.far,.int .i64 m.pts],.agg #[.int .i64 k1,.string t1,.int .i64 n1],.agg #[.int .i64 k2,.string t2,.int .i64 n2]] w
   fun e w'=>e=.returned (.bool (qm m k1 t1 n1 k2 t2 n2))∧Below w.heap.size w w':=by
 have HT:=Z9 hT;clear hT;have hB:=Xj w m k1 t1 n1 k2 t2 n2;have Hb:=Z9 (Xk w m k1 t1 n1 k2 t2 n2);have zL:=hB.1;have zM:=hB.2.1;have zN:=hB.2.2;by_cases h1:m.how=1
 ·obtain ⟨nm,how,fr,pn⟩:=m;obtain rfl:how=1:=h1;clear Hb hB zL zM zN;obtain ⟨R,HR⟩:∃ R,Hid (qm ⟨nm,1,fr,pn⟩ k1 t1 n1 k2 t2 n2=R):=⟨_,Z9 rfl⟩;rw [HR.out];go_enter Tryz.func124,Tryz.ntmps124
  go_wp2_with fail
  all_goals (go_ret;refine ⟨fM ?_,below3 _ _ _ _⟩;rw [← HR.out,qm,if_pos rfl];clear HR HT;simp_all)
 ·have h1':(m.how==1)=false:=by simpa using h1
  by_cases hk:k1=1∧k2=1
  ·obtain ⟨rfl,rfl⟩:=hk;have hf:=IE h1;clear IE;obtain ⟨nm,how,fr,pn⟩:=m;dsimp only at *
   obtain ⟨n,rfl⟩:=Zi (by omega:(0:Int)≤fr);obtain ⟨R,HR⟩:∃ R,Hid (qm ⟨nm,how,n,pn⟩ 1 t1 n1 1 t2 n2=R):=⟨_,Z9 rfl⟩;rw [HR.out];have HR2:Hid ((if how=2 then decide ((far t1 t2:Int)≤(n:Int)) else decide ((n:Int)≤(fZ t1).length) && decide ((n:Int)≤(fZ t2).length) && ((fZ t1).take n==(fZ t2).take n))=R):=by
    show _=_;rw [← HR.out,qm,if_neg h1,if_neg (show ¬ ¬ ((1:Int)=1∧(1:Int)=1) from fun h=>h ⟨rfl,rfl⟩)];simp only [Int.toNat_natCast]
   clear HR;have hla:(fZ t1).length≤200:=ZE (wS _ t1 (Z5 _)) ht1;have hlb:(fZ t2).length≤200:=ZE (wS _ t2 (Z5 _)) ht2;have IG:far t1 t2=D.pre (fZ t1) (fZ t2) (fZ t1).length (fZ t2).length:=rfl;rw [IG] at HR2;clear IG;have qo:=Z9 (fun w' (h:Below w.heap.size w w')=>L8 t1 w' (by omega) (Utf8Tabs_below HT.out h));have HP2:=Z9 (fun w' (h:Below w.heap.size w w')=>L8 t2 w' (by omega) (Utf8Tabs_below HT.out h));clear HT;change Hid (∀ w',Below w.heap.size w w'→Calls _ _ _ _ (Qk (fZ t1) w')) at qo;change Hid (∀ w',Below w.heap.size w w'→Calls _ _ _ _ (Qk (fZ t2) w')) at HP2;generalize fZ t1=x at *;generalize fZ t2=y at *;go_enter Tryz.func124,Tryz.ntmps124
   go_wp2_with fail
   have hC:mV w.heap.size ⟨nm,how,n,pn⟩ 1 t1 n1 1 t2 n2 (zI w ⟨nm,how,n,pn⟩ 1 t1 n1 1 t2 n2):=hB;have Hb0:Hid (Below w.heap.size w (zI w ⟨nm,how,n,pn⟩ 1 t1 n1 1 t2 n2)):=Hb;clear hB Hb zL zM zN;refine dF (mV w.heap.size ⟨nm,how,n,pn⟩ 1 t1 n1 1 t2 n2) [(true,0),(true,1),(true,3),(true,4),(false,2),(false,5),(true,6),(true,7)] (by kernel_rfl) (by kernel_rfl) (fun w' hd=>hC.below (hd.below _)) (fun KK aF wd aW=>?_);have oD:=hC.below (aW.below _);have Hb1:Hid (Below w.heap.size w wd):=Hb0.out.trans (aW.below _);clear hC Hb0 aW;refine aA ?_;refine iI (.string t1) rfl rfl rfl rfl (fun _=>rfl) (fun w' h=>h.2.1.cell 1 _ rfl) ?_;refine aA ?_;refine iI (.string t2) rfl rfl rfl rfl (fun _=>rfl) (fun w' h=>h.2.2.cell 1 _ rfl) ?_;refine aV rfl (fun K hK=>?_) oD;go_wp2_with fail
   refine (qo.out _ Hb1.out).mono ?_;rintro e wp1 ⟨va,rfl,hoa,hl1⟩;have hC2:=oD.below hl1;have Hb2:Hid (Below w.heap.size w wp1):=Hb1.out.trans (hl1.mono Hb1.out.size);have II:=Z9 hoa;clear hl1 oD hoa;go_wp2_with fail
   refine ⟨hC2,?_⟩;refine aV rfl (fun K2 hK2=>?_) hC2;go_wp2_with fail
   refine (HP2.out _ Hb2.out).mono ?_;rintro e oG ⟨vb,rfl,hob,hl2⟩;have hC:=hC2.below hl2;have nO:=Z9 hob;have mW:=Z9 (uN II.out hl2);have Hb0:Hid (Below w.heap.size w oG):=Hb2.out.trans (hl2.mono Hb2.out.size);clear hob hl2 hC2 Hb2 II Hb1 qo HP2;go_wp2_with fail
   refine ⟨hC,?_⟩;refine aA ?_;refine dG ?_;simp only [Exit.then];refine aF _ _ ?_;have Xl:oG.cell? ⟨w.heap.size,1,none⟩=some (.int .i64 how):=hC.1.cell 1 _ rfl;by_cases h2:how=2
   ·subst h2;have HR3:Hid (decide ((D.pre x y x.length y.length:Int)≤(n:Int))=R):=by show _=_;rw [← HR2.out,if_pos rfl]
    clear HR2;have Hd:=Z9 (fun w' (h:Below oG.heap.size oG w')=>Xm va vb x y w' (Rd.zx (uN mW.out h)) (Rd.zx (uN nO.out h)) (by omega) (by omega));obtain ⟨A1,c1,rfl⟩:=zK mW.out;obtain ⟨A2,c2,rfl⟩:=zK nO.out;generalize D.pre x y x.length y.length=dd at *;clear mW nO;go_wp2_with fail
    refine dF (mV w.heap.size ⟨nm,2,n,pn⟩ 1 t1 n1 1 t2 n2) [(true,0),(true,1),(true,3),(true,4),(false,2),(true,5),(true,6)] (by kernel_rfl) (by kernel_rfl) (fun w' hd=>hC.below (hd.below _)) (fun KK aF wd hd=>?_);have mX:=hC.below (hd.below _);have gZ:=Z9 (hd.below oG.heap.size);clear hd hC Xl;refine aA ?_;refine iI (.int .i64 n) rfl rfl rfl rfl (fun _=>rfl) (fun w' h=>h.1.cell 2 _ rfl) ?_;refine aV rfl (fun K hK=>?_) mX;go_wp2_with fail
    refine (Hd.out _ gZ.out).mono ?_;rintro e wq ⟨rfl,hlq⟩;have CS:=mX.below hlq;go_wp2_with fail
    refine ⟨CS,?_⟩;refine aA ?_;refine dG ?_;simp only [Exit.then];refine aF _ _ ?_;go_wp2_with fail
    go_ret;exact ⟨fM (by rw [← HR3.out];exact decide_eq_decide.2 (by omega)),Hb0.out.trans ((gZ.out.trans (hlq.mono gZ.out.size)).mono Hb0.out.size)⟩
   ·have h2':(how==2)=false:=by simpa using h2
    have HR3:Hid ((decide ((n:Int)≤x.length) && decide ((n:Int)≤y.length) && (x.take n==y.take n))=R):=by show _=_;rw [← HR2.out,if_neg h2]
    clear HR2;go_wp2_with fail
    clear Xl;by_cases hx:n≤x.length
    ·obtain ⟨ga,ca,rfl,hca,hga,CU⟩:=L6 mW.out (by omega);by_cases hy:n≤y.length
     ·obtain ⟨gb,cb,rfl,hcb,hgb,IJ⟩:=L6 nO.out (by omega);have HE:Hid (∀ w',Below oG.heap.size oG w'→Calls Tryz.prog 204 #[.slice (some ⟨ga,0,none⟩) n ca,.slice (some ⟨gb,0,none⟩) n cb] w' fun e w''=>e=.returned (.bool (x.take n==y.take n))∧Below w'.heap.size w' w''):=fun w' hw=>by
       have h1:=aep (some ⟨ga,0,none⟩) (some ⟨gb,0,none⟩) (x.take n) (y.take n) ca cb w' (fun i hi=>?_) (fun i hi=>?_) (by simp;omega) (by simp;omega)
       ·rw [ZR,ZR,Zl hx,Zl hy] at h1;exact h1
       ·have hi':i < n:=by simp at hi;omega
        refine ⟨ga,0,x[i]'(by omega),rfl,Nat.lt_of_lt_of_le hga hw.size,by rw [List.getElem?_take,if_pos hi',Z8 (by omega)],?_⟩;rw [hw.cell (p:=⟨ga,0 + i,none⟩) hga,Zh];exact CU i _ (by simp [Z8 (show i < x.length by omega)])
       ·have hi':i < n:=by simp at hi;omega
        refine ⟨gb,0,y[i]'(by omega),rfl,Nat.lt_of_lt_of_le hgb hw.size,by rw [List.getElem?_take,if_pos hi',Z8 (by omega)],?_⟩;rw [hw.cell (p:=⟨gb,0 + i,none⟩) hgb,Zh];exact IJ i _ (by simp [Z8 (show i < y.length by omega)])
      have hxi:(n:Int)≤(x.length:Int):=by omega
      have hyi:(n:Int)≤(y.length:Int):=by omega
      clear CU IJ;refine dF (mV w.heap.size ⟨nm,how,n,pn⟩ 1 t1 n1 1 t2 n2) [(true,0),(true,1),(true,2),(true,3),(true,4),(true,5),(true,6),(true,7),(true,8),(true,9),(true,10),(true,11),(true,12),(true,13),(true,14),(true,15),(true,16),(true,17),(true,18),(true,19),(true,20),(false,21),(true,22),(true,23)] (by kernel_rfl) (by kernel_rfl) (fun w' hd=>hC.below (hd.below _)) (fun KK aF wd hd=>?_);have mX:=hC.below (hd.below _);have gZ:=Z9 (hd.below oG.heap.size);clear hd hC mW nO;refine aA ?_;refine iI (.int .i64 n) rfl rfl rfl rfl (fun _=>rfl) (fun w' h=>h.1.cell 2 _ rfl) ?_;refine aA ?_;refine bV (.int .i64 n) rfl rfl rfl (fun w' h=>h.zJ) ?_;refine aA ?_;refine bV (.int .i64 n) rfl rfl rfl (fun w' h=>h.zJ) ?_;refine aA ?_;refine bV (.int .i64 n) rfl rfl rfl (fun w' h=>h.zJ) ?_;refine aA ?_;refine aV rfl (fun K hK=>?_) mX;go_wp2_with fail
      refine (HE.out _ gZ.out).mono ?_;rintro e wq ⟨rfl,hlq⟩;have CS:=mX.below hlq;go_wp2_with fail
      refine ⟨CS,?_⟩;refine aA ?_;refine dG ?_;simp only [Exit.then];refine aF _ _ ?_;go_wp2_with fail
      go_ret;exact ⟨fM (by rw [← HR3.out,decide_eq_true hxi,decide_eq_true hyi];rfl),Hb0.out.trans ((gZ.out.trans (hlq.mono gZ.out.size)).mono Hb0.out.size)⟩
     ·have hxi:(n:Int)≤(x.length:Int):=by omega
      have hyi:¬ (n:Int)≤(y.length:Int):=by omega
      obtain ⟨A2,c2,rfl⟩:=zK nO.out;clear CU;refine dF (mV w.heap.size ⟨nm,how,n,pn⟩ 1 t1 n1 1 t2 n2) [(true,0),(true,1),(true,2),(true,3),(true,4),(true,5),(true,6),(true,7),(true,8),(true,9),(true,10),(true,11),(true,12),(true,13),(true,14),(true,15),(true,16),(true,17),(true,18),(true,19),(true,20),(false,21),(true,22),(true,23)] (by kernel_rfl) (by kernel_rfl) (fun w' hd=>hC.below (hd.below _)) (fun KK aF wd hd=>?_);have mX:=hC.below (hd.below _);have gZ:=Z9 (hd.below oG.heap.size);clear hd hC mW nO;refine aA ?_;refine iI (.int .i64 n) rfl rfl rfl rfl (fun _=>rfl) (fun w' h=>h.1.cell 2 _ rfl) ?_;refine aA ?_;refine bV (.int .i64 n) rfl rfl rfl (fun w' h=>h.zJ) ?_;refine aA ?_;refine aV rfl (fun K hK=>?_) mX;go_wp2_with fail
      refine aA ?_;refine dG ?_;simp only [Exit.then];refine aF _ _ ?_;go_wp2_with fail
      go_ret;exact ⟨fM (by rw [← HR3.out,decide_eq_true hxi,decide_eq_false (show ¬ (n:Int)≤(y.length:Int) by omega)];rfl),Hb0.out.trans (gZ.out.mono Hb0.out.size)⟩
    ·obtain ⟨A1,c1,rfl⟩:=zK mW.out;have hxi:¬ (n:Int)≤(x.length:Int):=by omega
     obtain ⟨A2,c2,rfl⟩:=zK nO.out;refine dF (mV w.heap.size ⟨nm,how,n,pn⟩ 1 t1 n1 1 t2 n2) [(true,0),(true,1),(true,2),(true,3),(true,4),(true,5),(true,6),(true,7),(true,8),(true,9),(true,10),(true,11),(true,12),(true,13),(true,14),(true,15),(true,16),(true,17),(true,18),(true,19),(true,20),(false,21),(true,22),(true,23)] (by kernel_rfl) (by kernel_rfl) (fun w' hd=>hC.below (hd.below _)) (fun KK aF wd hd=>?_);have mX:=hC.below (hd.below _);have gZ:=Z9 (hd.below oG.heap.size);clear hd hC mW nO;refine aA ?_;refine iI (.int .i64 n) rfl rfl rfl rfl (fun _=>rfl) (fun w' h=>h.1.cell 2 _ rfl) ?_;refine aA ?_;refine aV rfl (fun K hK=>?_) mX;go_wp2_with fail
     refine aA ?_;refine dG ?_;simp only [Exit.then];refine aF _ _ ?_;go_wp2_with fail
     go_ret;exact ⟨fM (by rw [← HR3.out,decide_eq_false (show ¬ (n:Int)≤(x.length:Int) by omega)];rfl),Hb0.out.trans (gZ.out.mono Hb0.out.size)⟩
  ·clear hB Hb zL zM zN HT;obtain ⟨R,HR⟩:∃ R,Hid (qm m k1 t1 n1 k2 t2 n2=R):=⟨_,Z9 rfl⟩;rw [HR.out];have HR2:Hid (false=R):=by
    show _=_;rw [← HR.out,qm,if_neg h1,if_pos hk]
   clear HR;go_enter Tryz.func124,Tryz.ntmps124
   by_cases e1:k1=1
   ·subst e1;have e2:(k2==1)=false:=by simpa using fun h=>hk ⟨rfl,h⟩
    clear hk;go_wp2_with fail
    go_ret;exact ⟨fM HR2.out,below3 _ _ _ _⟩
   ·have e2:(k1==1)=false:=by simpa using e1
    clear hk;go_wp2_with fail
    go_ret;exact ⟨fM HR2.out,below3 _ _ _ _⟩
theorem aer (m:cu)(k1 n1 k2 n2:Int)(t1 t2:ByteArray)(w:World)(hT:Tabs w)(ht1:t1.size≤200)(ht2:t2.size≤200)(IE:m.how≠1→1≤m.far∧m.far≤20) :
  Calls Tryz.prog 138 #[.agg #[.string m.name,.int .i64 m.how,.int .i64 m.far,.int .i64 m.pts],.agg #[.int .i64 k1,.string t1,.int .i64 n1],.agg #[.int .i64 k2,.string t2,.int .i64 n2]] w
   fun e w'=>e=.returned (.bool (qm m k1 t1 n1 k2 t2 n2))∧Below w.heap.size w w':=by
 have HT:=Z9 hT;clear hT;have hB:=Xj w m k1 t1 n1 k2 t2 n2;have Hb:=Z9 (Xk w m k1 t1 n1 k2 t2 n2);have zL:=hB.1;have zM:=hB.2.1;have zN:=hB.2.2;by_cases h1:m.how=1
 ·obtain ⟨nm,how,fr,pn⟩:=m;obtain rfl:how=1:=h1;clear Hb hB zL zM zN;obtain ⟨R,HR⟩:∃ R,Hid (qm ⟨nm,1,fr,pn⟩ k1 t1 n1 k2 t2 n2=R):=⟨_,Z9 rfl⟩;rw [HR.out];go_enter Tryz.func138,Tryz.ntmps138
  go_wp2_with fail
  all_goals (go_ret;refine ⟨fM ?_,below3 _ _ _ _⟩;rw [← HR.out,qm,if_pos rfl];clear HR HT;simp_all)
 ·have h1':(m.how==1)=false:=by simpa using h1
  by_cases hk:k1=1∧k2=1
  ·obtain ⟨rfl,rfl⟩:=hk;have hf:=IE h1;clear IE;obtain ⟨nm,how,fr,pn⟩:=m;dsimp only at *
   obtain ⟨n,rfl⟩:=Zi (by omega:(0:Int)≤fr);obtain ⟨R,HR⟩:∃ R,Hid (qm ⟨nm,how,n,pn⟩ 1 t1 n1 1 t2 n2=R):=⟨_,Z9 rfl⟩;rw [HR.out];have HR2:Hid ((if how=2 then decide ((far t1 t2:Int)≤(n:Int)) else decide ((n:Int)≤(fZ t1).length) && decide ((n:Int)≤(fZ t2).length) && ((fZ t1).take n==(fZ t2).take n))=R):=by
    show _=_;rw [← HR.out,qm,if_neg h1,if_neg (show ¬ ¬ ((1:Int)=1∧(1:Int)=1) from fun h=>h ⟨rfl,rfl⟩)];simp only [Int.toNat_natCast]
   clear HR;have hla:(fZ t1).length≤200:=ZE (wS _ t1 (Z5 _)) ht1;have hlb:(fZ t2).length≤200:=ZE (wS _ t2 (Z5 _)) ht2;have IG:far t1 t2=D.pre (fZ t1) (fZ t2) (fZ t1).length (fZ t2).length:=rfl;rw [IG] at HR2;clear IG;by_cases h2:how=2
   ·subst h2;have HF:=Z9 (fun w' (h:Below w.heap.size w w')=>aes t1 t2 w' ht1 ht2 (Utf8Tabs_below HT.out h));have HR3:Hid (decide ((far t1 t2:Int)≤(n:Int))=R):=by show _=_;rw [← HR2.out,if_pos rfl];rfl
    generalize far t1 t2=dd at *;clear HR2 HT;go_enter Tryz.func138,Tryz.ntmps138
    go_wp2_with fail
    have hC:mV w.heap.size ⟨nm,2,n,pn⟩ 1 t1 n1 1 t2 n2 (zI w ⟨nm,2,n,pn⟩ 1 t1 n1 1 t2 n2):=hB;have Hb0:Hid (Below w.heap.size w (zI w ⟨nm,2,n,pn⟩ 1 t1 n1 1 t2 n2)):=Hb;clear hB Hb zL zM zN;refine dF (mV w.heap.size ⟨nm,2,n,pn⟩ 1 t1 n1 1 t2 n2) [(true,0),(true,1),(true,2),(true,3),(true,5),(true,6),(false,4),(true,7),(true,8)] (by kernel_rfl) (by kernel_rfl) (fun w' hd=>hC.below (hd.below _)) (fun KK aF wd hd=>?_);have mX:=hC.below (hd.below _);have gZ:Hid (Below w.heap.size w wd):=Hb0.out.trans (hd.below _);clear hd hC;refine aA ?_;refine iI (.string t1) rfl rfl rfl rfl (fun _=>rfl) (fun w' h=>h.2.1.cell 1 _ rfl) ?_;refine aA ?_;refine iI (.string t2) rfl rfl rfl rfl (fun _=>rfl) (fun w' h=>h.2.2.cell 1 _ rfl) ?_;refine aA ?_;refine iI (.int .i64 n) rfl rfl rfl rfl (fun _=>rfl) (fun w' h=>h.1.cell 2 _ rfl) ?_;refine aV rfl (fun K hK=>?_) mX;go_wp2_with fail
    refine (HF.out _ gZ.out).mono ?_;rintro e wq ⟨rfl,hlq⟩;have CS:=mX.below hlq;go_wp2_with fail
    refine ⟨CS,?_⟩;refine aA ?_;refine dG ?_;simp only [Exit.then];refine aF _ _ ?_;go_wp2_with fail
    go_ret;exact ⟨fM (by rw [← HR3.out];exact decide_eq_decide.2 (by omega)),gZ.out.trans (hlq.mono gZ.out.size)⟩
   ·have h2':(how==2)=false:=by simpa using h2
    have qo:=Z9 (fun w' (h:Below w.heap.size w w')=>ES t1 w' (by omega) (Utf8Tabs_below HT.out h));have HP2:=Z9 (fun w' (h:Below w.heap.size w w')=>ES t2 w' (by omega) (Utf8Tabs_below HT.out h));have HR3:Hid ((decide ((n:Int)≤(fZ t1).length) && decide ((n:Int)≤(fZ t2).length) && ((fZ t1).take n==(fZ t2).take n))=R):=by show _=_;rw [← HR2.out,if_neg h2]
    clear HT HR2;change Hid (∀ w',Below w.heap.size w w'→Calls _ _ _ _ (Fa (fZ t1) w')) at qo;change Hid (∀ w',Below w.heap.size w w'→Calls _ _ _ _ (Fa (fZ t2) w')) at HP2;generalize fZ t1=x at *;generalize fZ t2=y at *;go_enter Tryz.func138,Tryz.ntmps138
    go_wp2_with fail
    have hC:mV w.heap.size ⟨nm,how,n,pn⟩ 1 t1 n1 1 t2 n2 (zI w ⟨nm,how,n,pn⟩ 1 t1 n1 1 t2 n2):=hB;have Hb0:Hid (Below w.heap.size w (zI w ⟨nm,how,n,pn⟩ 1 t1 n1 1 t2 n2)):=Hb;clear hB Hb zL zM zN;refine dF (mV w.heap.size ⟨nm,how,n,pn⟩ 1 t1 n1 1 t2 n2) [(true,0),(true,1),(true,3),(true,4),(false,2),(false,5),(true,6),(true,7)] (by kernel_rfl) (by kernel_rfl) (fun w' hd=>hC.below (hd.below _)) (fun KK aF wd aW=>?_);have oD:=hC.below (aW.below _);have Hb1:Hid (Below w.heap.size w wd):=Hb0.out.trans (aW.below _);clear hC Hb0 aW;refine aA ?_;refine iI (.string t1) rfl rfl rfl rfl (fun _=>rfl) (fun w' h=>h.2.1.cell 1 _ rfl) ?_;refine aA ?_;refine iI (.string t2) rfl rfl rfl rfl (fun _=>rfl) (fun w' h=>h.2.2.cell 1 _ rfl) ?_;refine aV rfl (fun K hK=>?_) oD;go_wp2_with fail
    refine (qo.out _ Hb1.out).mono ?_;rintro e wp1 ⟨va,rfl,hoa,hl1⟩;have hC2:=oD.below hl1;have Hb2:Hid (Below w.heap.size w wp1):=Hb1.out.trans (hl1.mono Hb1.out.size);have II:=Z9 hoa;clear hl1 oD hoa;go_wp2_with fail
    refine ⟨hC2,?_⟩;refine aV rfl (fun K2 hK2=>?_) hC2;go_wp2_with fail
    refine (HP2.out _ Hb2.out).mono ?_;rintro e oG ⟨vb,rfl,hob,hl2⟩;have hC:=hC2.below hl2;have nO:=Z9 hob;have mW:=Z9 (uN II.out hl2);have Hb0:Hid (Below w.heap.size w oG):=Hb2.out.trans (hl2.mono Hb2.out.size);clear hob hl2 hC2 Hb2 II Hb1 qo HP2;go_wp2_with fail
    refine ⟨hC,?_⟩;refine aA ?_;refine dG ?_;simp only [Exit.then];refine aF _ _ ?_;go_wp2_with fail
    by_cases hx:n≤x.length
    ·obtain ⟨ga,ca,rfl,hca,hga,CU⟩:=L6 mW.out (by omega);by_cases hy:n≤y.length
     ·obtain ⟨gb,cb,rfl,hcb,hgb,IJ⟩:=L6 nO.out (by omega);have HE:Hid (∀ w',Below oG.heap.size oG w'→Calls Tryz.prog 107 #[.slice (some ⟨ga,0,none⟩) n ca,.slice (some ⟨gb,0,none⟩) n cb] w' fun e w''=>e=.returned (.bool (x.take n==y.take n))∧Below w'.heap.size w' w''):=fun w' hw=>by
       refine (Tryz.slices_Equal_int ga 0 n ca gb 0 n cb x y w' hx hy (by omega) (by omega) (fun i hi=>?_) (fun i hi=>?_)).mono ?_
       ·rw [hw.cell (p:=⟨ga,0 + i,none⟩) hga,Zh];exact CU i _ (by simp [Z8 hi])
       ·rw [hw.cell (p:=⟨gb,0 + i,none⟩) hgb,Zh];exact IJ i _ (by simp [Z8 hi])
       ·rintro e w'' ⟨h1,q,rfl⟩;exact ⟨h1,below_drewN _ _ _⟩
      have hxi:(n:Int)≤(x.length:Int):=by omega
      have hyi:(n:Int)≤(y.length:Int):=by omega
      clear CU IJ;refine dF (mV w.heap.size ⟨nm,how,n,pn⟩ 1 t1 n1 1 t2 n2) [(true,0),(true,1),(true,2),(true,3),(true,4),(true,5),(true,6),(true,7),(true,8),(true,9),(true,10),(true,11),(true,12),(true,13),(true,14),(true,15),(true,16),(true,17),(true,18),(true,19),(true,20),(false,21),(true,22),(true,23)] (by kernel_rfl) (by kernel_rfl) (fun w' hd=>hC.below (hd.below _)) (fun KK aF wd hd=>?_);have mX:=hC.below (hd.below _);have gZ:=Z9 (hd.below oG.heap.size);clear hd hC mW nO;refine aA ?_;refine iI (.int .i64 n) rfl rfl rfl rfl (fun _=>rfl) (fun w' h=>h.1.cell 2 _ rfl) ?_;refine aA ?_;refine bV (.int .i64 n) rfl rfl rfl (fun w' h=>h.zJ) ?_;refine aA ?_;refine bV (.int .i64 n) rfl rfl rfl (fun w' h=>h.zJ) ?_;refine aA ?_;refine bV (.int .i64 n) rfl rfl rfl (fun w' h=>h.zJ) ?_;refine aA ?_;refine aV rfl (fun K hK=>?_) mX;go_wp2_with fail
      refine (HE.out _ gZ.out).mono ?_;rintro e wq ⟨rfl,hlq⟩;have CS:=mX.below hlq;go_wp2_with fail
      refine ⟨CS,?_⟩;refine aA ?_;refine dG ?_;simp only [Exit.then];refine aF _ _ ?_;go_wp2_with fail
      go_ret;exact ⟨fM (by rw [← HR3.out,decide_eq_true hxi,decide_eq_true hyi];rfl),Hb0.out.trans ((gZ.out.trans (hlq.mono gZ.out.size)).mono Hb0.out.size)⟩
     ·have hxi:(n:Int)≤(x.length:Int):=by omega
      have hyi:¬ (n:Int)≤(y.length:Int):=by omega
      obtain ⟨A2,c2,rfl⟩:=zK nO.out;clear CU;refine dF (mV w.heap.size ⟨nm,how,n,pn⟩ 1 t1 n1 1 t2 n2) [(true,0),(true,1),(true,2),(true,3),(true,4),(true,5),(true,6),(true,7),(true,8),(true,9),(true,10),(true,11),(true,12),(true,13),(true,14),(true,15),(true,16),(true,17),(true,18),(true,19),(true,20),(false,21),(true,22),(true,23)] (by kernel_rfl) (by kernel_rfl) (fun w' hd=>hC.below (hd.below _)) (fun KK aF wd hd=>?_);have mX:=hC.below (hd.below _);have gZ:=Z9 (hd.below oG.heap.size);clear hd hC mW nO;refine aA ?_;refine iI (.int .i64 n) rfl rfl rfl rfl (fun _=>rfl) (fun w' h=>h.1.cell 2 _ rfl) ?_;refine aA ?_;refine bV (.int .i64 n) rfl rfl rfl (fun w' h=>h.zJ) ?_;refine aA ?_;refine aV rfl (fun K hK=>?_) mX;go_wp2_with fail
      refine aA ?_;refine dG ?_;simp only [Exit.then];refine aF _ _ ?_;go_wp2_with fail
      go_ret;exact ⟨fM (by rw [← HR3.out,decide_eq_true hxi,decide_eq_false (show ¬ (n:Int)≤(y.length:Int) by omega)];rfl),Hb0.out.trans (gZ.out.mono Hb0.out.size)⟩
    ·obtain ⟨A1,c1,rfl⟩:=zK mW.out;have hxi:¬ (n:Int)≤(x.length:Int):=by omega
     obtain ⟨A2,c2,rfl⟩:=zK nO.out;refine dF (mV w.heap.size ⟨nm,how,n,pn⟩ 1 t1 n1 1 t2 n2) [(true,0),(true,1),(true,2),(true,3),(true,4),(true,5),(true,6),(true,7),(true,8),(true,9),(true,10),(true,11),(true,12),(true,13),(true,14),(true,15),(true,16),(true,17),(true,18),(true,19),(true,20),(false,21),(true,22),(true,23)] (by kernel_rfl) (by kernel_rfl) (fun w' hd=>hC.below (hd.below _)) (fun KK aF wd hd=>?_);have mX:=hC.below (hd.below _);have gZ:=Z9 (hd.below oG.heap.size);clear hd hC mW nO;refine aA ?_;refine iI (.int .i64 n) rfl rfl rfl rfl (fun _=>rfl) (fun w' h=>h.1.cell 2 _ rfl) ?_;refine aA ?_;refine aV rfl (fun K hK=>?_) mX;go_wp2_with fail
     refine aA ?_;refine dG ?_;simp only [Exit.then];refine aF _ _ ?_;go_wp2_with fail
     go_ret;exact ⟨fM (by rw [← HR3.out,decide_eq_false (show ¬ (n:Int)≤(x.length:Int) by omega)];rfl),Hb0.out.trans (gZ.out.mono Hb0.out.size)⟩
  ·clear hB Hb zL zM zN HT;obtain ⟨R,HR⟩:∃ R,Hid (qm m k1 t1 n1 k2 t2 n2=R):=⟨_,Z9 rfl⟩;rw [HR.out];have HR2:Hid (false=R):=by
    show _=_;rw [← HR.out,qm,if_neg h1,if_pos hk]
   clear HR;go_enter Tryz.func138,Tryz.ntmps138
   by_cases e1:k1=1
   ·subst e1;have e2:(k2==1)=false:=by simpa using fun h=>hk ⟨rfl,h⟩
    clear hk;go_wp2_with fail
    go_ret;exact ⟨fM HR2.out,below3 _ _ _ _⟩
   ·have e2:(k1==1)=false:=by simpa using e1
    clear hk;go_wp2_with fail
    go_ret;exact ⟨fM HR2.out,below3 _ _ _ _⟩
end
section
def fits (m:cu)(f g:aQ):Bool:=qm m f.kind f.text f.num g.kind g.text g.num
def gain (m:cu)(f g:aQ):Int:=if f.name=m.name∧g.name=m.name∧fits m f g=true then m.pts else 0
def goB (m:cu)(f:aQ):List aQ→Int
 | []=>0
 | g::r=>gain m f g + goB m f r
def kU (m:cu)(b:List aQ):List aQ→Int
 | []=>0
 | f::r=>goB m f b + kU m b r
def fV (a b:List aQ):List cu→Int
 | []=>0
 | m::r=>kU m b a + fV a b r
theorem pJ.tail {f:aQ}{r:List aQ}(h:pJ (f::r)):pJ r:=fun i j x y hij hx hy=>h (i + 1) (j + 1) x y (by omega) (by simpa using hx) (by simpa using hy)
theorem pJ.head {f g:aQ}{r:List aQ}(h:pJ (f::r))(hg:g∈r):g.name≠f.name:=fun e=>by
 obtain ⟨i,hi,he⟩:=Zn hg;have:=h 0 (i + 1) f g (by omega) rfl (by simp [Z8 hi,he])
 rw [e,zO] at this;cases this
theorem Ql (m:cu)(f:aQ)(h:f.name≠m.name):∀ b,goB m f b=0
 | []=>rfl
 | g::r=>by rw [goB,gain,if_neg (fun e=>h e.1),Ql m f h r];rfl
theorem L9 (m:cu)(f:aQ):∀ b:List aQ,(∀ g∈b,g.name≠m.name)→goB m f b=0
 | [],_=>rfl
 | g::r,h=>by rw [goB,gain,if_neg (fun e=>h g (by simp) e.2.1),L9 m f r (fun x hx=>h x (by simp [hx]))];rfl
theorem Qm (m:cu)(f g:aQ)(hf:f.name=m.name)(hg:g.name=m.name):∀ b:List aQ,pJ b→g∈b→goB m f b=if fits m f g=true then m.pts else 0
 | [],_,h=>by cases h
 | x::r,hr,h=>by
  rw [goB];rcases List.mem_cons.1 h with rfl | h'
  ·rw [L9 m f r (fun y hy=>by rw [← hg];exact hr.head hy),gain];by_cases hfit:fits m f g=true
   ·rw [if_pos ⟨hf,hg,hfit⟩,if_pos hfit];omega
   ·rw [if_neg (fun e=>hfit e.2.2),if_neg hfit];rfl
  ·have hx:x.name≠m.name:=fun e=>hr.head h' (hg.trans e.symm);rw [gain,if_neg (fun e=>hx e.2.1),Qm m f g hf hg r hr.tail h'];omega
theorem Mc (m:cu)(b:List aQ):∀ a:List aQ,(∀ f∈a,f.name≠m.name)→kU m b a=0
 | [],_=>rfl
 | f::r,h=>by rw [kU,Ql m f (h f (by simp)),Mc m b r (fun x hx=>h x (by simp [hx]))];rfl
theorem Qn (m:cu)(b:List aQ)(f:aQ)(hf:f.name=m.name):∀ a:List aQ,pJ a→f∈a→kU m b a=goB m f b
 | [],_,h=>by cases h
 | x::r,hr,h=>by
  rw [kU];rcases List.mem_cons.1 h with rfl | h'
  ·rw [Mc m b r (fun y hy=>by rw [← hf];exact hr.head hy)];omega
  ·have hx:x.name≠m.name:=fun e=>hr.head h' (hf.trans e.symm);rw [Ql m x hx,Qn m b f hf r hr.tail h'];omega
def Fb (m:cu)(o1 o2:Option aQ):Int:=match o1,o2 with | some f,some g=>if fits m f g=true then m.pts else 0 | _,_=>0
theorem aeu (m:cu)(a b:List aQ)(ha:pJ a)(hb:pJ b)(o1 o2:Option aQ)(h1:IK a m.name o1)(h2:IK b m.name o2):kU m b a=Fb m o1 o2:=by
 rcases o1 with _ | f
 ·rw [Mc m b a (h1.2 rfl)];rfl
 ·obtain ⟨hfa,hf⟩:=h1.1 f rfl;rw [Qn m b f hf a ha hfa];rcases o2 with _ | g
  ·rw [L9 m f b (h2.2 rfl)];rfl
  ·obtain ⟨hgb,hg⟩:=h2.1 g rfl;rw [Qm m f g hf hg b hb hgb];rfl
theorem Xn:∀ l:List cu,qP l=0→∀ m∈l,(m.how≠1→1≤m.far∧m.far≤20)∧-1000≤m.pts∧m.pts≤1000
 | [],_=>fun _ h=>by cases h
 | x::r,h=>fun m hm=>by
  rw [qP] at h;by_cases c1:L.isKey x.name=false
  ·rw [if_pos c1] at h;cases h
  rw [if_neg c1] at h;by_cases c2:¬ (1≤x.how∧x.how≤3)
  ·rw [if_pos c2] at h;cases h
  rw [if_neg c2] at h;by_cases c3:¬ ((if x.how=1 then x.far=0 else 1≤x.far∧x.far≤20)∧(-1000≤x.pts∧x.pts≤1000))
  ·rw [if_pos c3] at h;cases h
  rw [if_neg c3] at h;have h3:=Classical.not_not.1 c3;rcases List.mem_cons.1 hm with rfl | hm
  ·refine ⟨fun h1=>?_,h3.2⟩;have:=h3.1
   rw [if_neg h1] at this;exact this
  ·exact Xn r h m hm
theorem V4 {l:List cu}(h:lN l=0):l.length≤20∧∀ m∈l,(m.how≠1→1≤m.far∧m.far≤20)∧-1000≤m.pts∧m.pts≤1000:=by
 unfold lN at h;split at h
 ·cases h
 split at h
 ·cases h
 exact ⟨by omega,Xn l h⟩
end
section
open Go Go.RowKit
structure au where
 a:ah
 b:ah
 pts:Int
 ix:Nat
def CV (x y:au):Int:=ZL y.pts x.pts
theorem Md:fC CV:=⟨fun a b=>Qo.anti b.pts a.pts,fun a b d h1 h2=>Qo.trans d.pts b.pts a.pts h2 h1⟩
theorem Xo {x y:au}:CV x y < 0 ↔ y.pts < x.pts:=by
 unfold CV ZL;split
 ·constructor <;> intro <;> omega
 ·split <;> constructor <;> intro <;> omega
def fG (n i k:Nat):List (Nat×Nat):=(YW i).flatMap (fun a=>(List.range' (a + 1) (n - (a + 1))).map fun b=>(a,b))++(List.range' (i + 1) (k - (i + 1))).map fun b=>(i,b)
theorem V5 (n:Nat):fG n 0 1=[]:=by unfold fG;simp
theorem PS (n i k:Nat)(h:i < k):fG n i (k + 1)=fG n i k++[(i,k)]:=by
 unfold fG;rw [show k + 1 - (i + 1)=(k - (i + 1)) + 1 by omega,List.range'_concat,ZP,ZM];congr 3
 simp only [Zt,List.map_nil,Nat.one_mul];rw [show i + 1 + (k - (i + 1))=k by omega]
theorem Wn (n i:Nat):fG n (i + 1) (i + 2)=fG n i n:=by
 unfold fG;rw [List.range_succ,List.flatMap_append,show i + 2 - (i + 1 + 1)=0 by omega];simp
theorem V6 (n:Nat):∀ i,i≤n→∀ k,k≤n→(fG n i k).length≤(i + 1) * n:=by
 intro i hi k hk;unfold fG;rw [Z4,ZW,List.length_range'];have h1:((YW i).flatMap (fun a=>(List.range' (a + 1) (n - (a + 1))).map fun b=>(a,b))).length≤i * n:=by
  clear hi;induction i with
  | zero=>simp
  | succ i ih =>
   rw [List.range_succ,List.flatMap_append,Z4,YV];simp only [List.flatMap_singleton,ZW,List.length_range'];omega
 rw [YV];omega
section
variable (K:List (ah×List aQ)) (ms:List cu) (least:Int)
abbrev wG (i:Nat):ah:=(K.getD i (⟨0,⟨#[]⟩⟩,[])).1
abbrev wH (i:Nat):List aQ:=(K.getD i (⟨0,⟨#[]⟩⟩,[])).2
def zq (p:Nat×Nat):Int:=fV (wH K p.1) (wH K p.2) ms
def H8 (p:Nat×Nat)(n:Nat):au:=⟨wG K p.1,wG K p.2,zq K ms p,n⟩
def rQ (acc:List au)(p:Nat×Nat):List au:=if least≤zq K ms p then acc++[H8 K ms p acc.length] else acc
def gI (l:List (Nat×Nat)):List au:=l.foldl (rQ K ms least) []
end
section
variable {K:List (ah×List aQ)} {ms:List cu} {least:Int}
theorem Qp (l:List (Nat×Nat))(p:Nat×Nat):gI K ms least (l++[p])=rQ K ms least (gI K ms least l) p:=by unfold gI;rw [List.foldl_append];rfl
theorem Lp:∀ l:List (Nat×Nat),(gI K ms least l).length≤l.length:=by
 intro l;have:∀ (l:List (Nat×Nat)) acc,(l.foldl (rQ K ms least) acc).length≤acc.length + l.length:=by
  intro l;induction l with
  | nil=>simp
  | cons p r ih =>
   intro acc;have h1:=ih (rQ K ms least acc p);rw [Zk,ZV];have h2:(rQ K ms least acc p).length≤acc.length + 1:=by
    unfold rQ;split
    ·simp
    ·omega
   omega
 have h:=this l [];simpa [gI] using h
theorem Xp (l:List (Nat×Nat)):(gI K ms least l).Pairwise (fun a b=>a.ix < b.ix)∧∀ x∈gI K ms least l,x.ix < (gI K ms least l).length:=by
 have:∀ (l:List (Nat×Nat)) (acc:List au),(acc.Pairwise (fun a b=>a.ix < b.ix)∧∀ x∈acc,x.ix < acc.length)→((l.foldl (rQ K ms least) acc).Pairwise (fun a b=>a.ix < b.ix)∧∀ x∈l.foldl (rQ K ms least) acc,x.ix < (l.foldl (rQ K ms least) acc).length):=by
  intro l;induction l with
  | nil=>intro acc h;exact h
  | cons p r ih =>
   intro acc h;refine ih _ ?_;unfold rQ;split
   ·refine ⟨List.pairwise_append.2 ⟨h.1,YS _ _,fun x hx y hy=>?_⟩,fun x hx=>?_⟩
    ·rw [List.mem_singleton.1 hy];exact h.2 x hx
    ·rw [Z4];rcases List.mem_append.1 hx with hx | hx
     ·have:=h.2 x hx;omega
     ·rw [List.mem_singleton.1 hx];show acc.length < _;simp
   ·exact h
 exact this l [] ⟨List.Pairwise.nil,fun _ h=>by cases h⟩
def jk (base zs:List au):Prop:=zs.Perm base∧zs.Pairwise (TB CV au.ix)
theorem jk.uniq {base zs ys:List au}(h:jk base zs)(g:jk base ys):zs=ys :=
 Me (TB CV au.ix) (fun x=>TB.EY Md x) (fun _ _ _ h1 h2=>h1.trans Md h2) zs ys h.2 g.2 (fun x=>by rw [h.1.mem_iff,g.1.mem_iff])
theorem jk.nil:jk [] []:=⟨.refl _,List.Pairwise.nil⟩
theorem jk.put {l:List (Nat×Nat)}{p:Nat×Nat}{A B:List au}(h:jk (gI K ms least l) (A++B))(hp:least≤zq K ms p)(hA:∀ x,A.getLast? =some x→¬ x.pts < zq K ms p)(hB:∀ x,B.head? =some x→x.pts < zq K ms p) :
  jk (gI K ms least (l++[p])) (A++H8 K ms p (A++B).length::B):=by
 have hlen:(A++B).length=(gI K ms least l).length:=h.1.length_eq;have hx:=Xp (K:=K) (ms:=ms) (least:=least) l;have hs:=LZ (ix:=au.ix) (y:=H8 K ms p (A++B).length) Md h.2 (fun x hx2 y hy=>by
  rw [List.mem_singleton.1 hy];show x.ix < (A++B).length;rw [hlen];exact hx.2 x (h.1.mem_iff.1 hx2)) (fun x hx=>by rw [Xo];exact hA x hx) (fun x hx=>by rw [Xo];exact hB x hx)
 refine ⟨hs.1.trans ?_,hs.2⟩;rw [Qp];unfold rQ;rw [if_pos hp,hlen];exact h.1.append_right _
theorem jk.skip {l:List (Nat×Nat)}{p:Nat×Nat}{zs:List au}(h:jk (gI K ms least l) zs)(hp:¬ least≤zq K ms p):jk (gI K ms least (l++[p])) zs:=by
 rw [Qp];unfold rQ;rw [if_neg hp];exact h
end
end
section
open Go.RowKit
def Xq (ms:List cu):Prop:=ms.length≤20∧∀ m∈ms,(m.how≠1→1≤m.far∧m.far≤20)∧-1000≤m.pts∧m.pts≤1000
def uw (l:List aQ):Prop:=l.length≤30∧(∀ f∈l,f.text.size≤200)∧pJ l
theorem LV.kb2 {w w':World}{X B:Nat}{cs:Array Value}{T:TypeId}(h:LV w X cs T)(k:Below B w w')(hb:X < B):LV w' X cs T:=(k.block X hb).trans h
theorem MB {α:Type}{xs:List α}{k:Nat}{s:α}(h:xs[k]? =some s):xs.drop k=s::xs.drop (k + 1):=by
 obtain ⟨hlt,rfl⟩:=List.getElem?_eq_some_iff.1 h;exact Zz hlt
theorem aev (N:Nat→Prop)(Am Aa Ab:Option Addr)(ms:List cu)(a b:List aQ)(cm ca cb:Nat)(w:World)(hM:Sl lK N w Am ms)(hA:Sl bK N w Aa a)(hB:Sl bK N w Ab b)(hm:Xq ms)(ha:uw a)(hb:uw b)(hT:Tabs w) :
  Calls Tryz.prog 57 #[.slice Am ms.length cm,.slice Aa a.length ca,.slice Ab b.length cb] w fun e w'=>e=.returned (.int .i64 (fV a b ms))∧Below w.heap.size w w':=by
 have HM:=Z9 hM;have Hm:=Z9 hm;have Ha:=Z9 ha;have Hb:=Z9 hb;have HT:=Z9 hT;have hml:=hm.1;have HFa:=Z9 (fun w' (h:Below w.heap.size w w') nm=>Xr N Aa a nm ca w' (hA.aK h) (by have:=ha.1;omega) ha.2.2);have HFb:=Z9 (fun w' (h:Below w.heap.size w w') nm=>Xr N Ab b nm cb w' (hB.aK h) (by have:=hb.1;omega) hb.2.2);clear hM hA hB hm ha hb hT;obtain ⟨R,HR⟩:∃ R,Hid (fV a b ms=R):=⟨_,Z9 rfl⟩;rw [HR.out];go_enter Tryz.func57,Tryz.ntmps57
 go_wp2_with fail
 go_loopw [7,16] (fun s i wr=>∃ (k:Nat) (t:Int),k≤ms.length∧i=.int .i64 k∧s=.int .i64 t∧t + fV a b (ms.drop k)=R∧-(1000 * (k:Int))≤t∧t≤1000 * (k:Int)∧Below w.heap.size w wr) (fun _ i _=>ms.length - (intOf i).toNat)
 case atStart=>exact ⟨0,0,by omega,rfl,rfl,by simpa using HR.out,by omega,by omega,ZX _ _⟩
 case round =>
  clear HR;obtain ⟨k,t,hk,rfl,rfl,hr,ht1,ht2,hbl⟩:=hrel;have Hr:=Z9 hr;clear hr;by_cases hlt:k < ms.length
  ·obtain ⟨m,hmk⟩:∃ m,ms[k]? =some m:=⟨_,Z8 hlt⟩;obtain ⟨blk,off,rfl,hblk,d0,d1,d2,d3⟩:=(HM.out.aK hbl).meas k m hmk;have kE:=Z9 (Hm.out.2 m (Z7 hmk));have aew:=kE.out.2;have bP:Hid (t + (kU m b a + fV a b (ms.drop (k + 1)))=R):=by show _=_;rw [← Hr.out,MB hmk];rfl
   clear Hr hmk;have gq:=LV.new wr wr.heap.size #[.string m.name,.int .i64 m.how,.int .i64 m.far,.int .i64 m.pts] 96 rfl;have Hb1:Hid (Below w.heap.size w (wr.alloc (.cells #[.string m.name,.int .i64 m.how,.int .i64 m.far,.int .i64 m.pts] 96))):=hbl.alloc hbl.size _;have hsz:=hbl.size;clear hbl;go_wp2_with fail
   refine (HFa.out _ Hb1.out _).mono ?_;rintro e w1 ⟨o1,hf1,rfl,hl1⟩;have Qq:=LV.kb2 gq hl1 gq.lt;have Hb2:=Z9 (Hb1.out.trans (hl1.mono Hb1.out.size));have hz1:=hl1.size;simp only [World.size_alloc] at hz1;have Hf1:=Z9 hf1;have c1:w1.cell? ⟨wr.heap.size,0,none⟩=some (.string m.name):=Qq.cell 0 _ rfl;clear d0 d1 d2 d3 gq hl1 hf1 Hb1;obtain ⟨k1,t1,n1,e1⟩:∃ (k:Int) (t:ByteArray) (n:Int),valOf o1=.agg #[.int .i64 k,.string t,.int .i64 n]:=by cases o1 <;> exact ⟨_,_,_,rfl⟩
   rw [e1];have Hb3:Hid (Below w.heap.size w (w1.alloc (.cells #[.int .i64 k1,.string t1,.int .i64 n1] 174))):=Hb2.out.alloc Hb2.out.size _;have zQ:=Qq.alloc (.cells #[.int .i64 k1,.string t1,.int .i64 n1] 174);have Qr:=LV.new w1 w1.heap.size #[.int .i64 k1,.string t1,.int .i64 n1] 174 rfl;have c2:(w1.alloc (.cells #[.int .i64 k1,.string t1,.int .i64 n1] 174)).cell? ⟨wr.heap.size,0,none⟩=some (.string m.name):=zQ.cell 0 _ rfl;clear Qq Hb2;go_wp2_with fail
   refine (HFb.out _ Hb3.out _).mono ?_;rintro e w2 ⟨o2,hf2,rfl,hl2⟩;have IL:=LV.kb2 zQ hl2 zQ.lt;have Fe:=LV.kb2 Qr hl2 Qr.lt;have Hb4:=Z9 (Hb3.out.trans (hl2.mono Hb3.out.size));have hz2:=hl2.size;simp only [World.size_alloc] at hz2;have Fg:=Z9 hf2;clear c1 c2 zQ Qr hl2 hf2 Hb3;obtain ⟨k2,t2,n2,e2⟩:∃ (k:Int) (t:ByteArray) (n:Int),valOf o2=.agg #[.int .i64 k,.string t,.int .i64 n]:=by cases o2 <;> exact ⟨_,_,_,rfl⟩
   rw [e2];have Hb5:Hid (Below w.heap.size w (w2.alloc (.cells #[.int .i64 k2,.string t2,.int .i64 n2] 174))):=Hb4.out.alloc Hb4.out.size _;have uO:=IL.alloc (.cells #[.int .i64 k2,.string t2,.int .i64 n2] 174);have zS:=Fe.alloc (.cells #[.int .i64 k2,.string t2,.int .i64 n2] 174);have MC:=LV.new w2 w2.heap.size #[.int .i64 k2,.string t2,.int .i64 n2] 174 rfl;have zT:Hid (kU m b a=Fb m o1 o2):=aeu m a b Ha.out.2.2 Hb.out.2.2 o1 o2 Hf1.out Fg.out;clear IL Fe Hb4;rcases o1 with _ | f
   ·have Hn:Hid (t + fV a b (ms.drop (k + 1))=R):=by show _=_;rw [← bP.out,zT.out];simp [Fb]
    clear bP zT;go_wp2_with fail
    go_roundw
    case rel=>exact ⟨k + 1,t,by omega,by go_num,rfl,Hn.out,by omega,by omega,Hb5.out⟩
    case measure=>simp [intOf];omega
   rcases o2 with _ | g
   ·have Hn:Hid (t + fV a b (ms.drop (k + 1))=R):=by show _=_;rw [← bP.out,zT.out];simp [Fb]
    clear bP zT;go_wp2_with fail
    go_roundw
    case rel=>exact ⟨k + 1,t,by omega,by go_num,rfl,Hn.out,by omega,by omega,Hb5.out⟩
    case measure=>simp [intOf];omega
   obtain ⟨rfl,rfl,rfl⟩:f.kind=k1∧f.text=t1∧f.num=n1:=by simpa [valOf] using e1
   obtain ⟨rfl,rfl,rfl⟩:g.kind=k2∧g.text=t2∧g.num=n2:=by simpa [valOf] using e2
   clear e1 e2;have yh:=Z9 (alike_any m f.kind f.num g.kind g.num f.text g.text _ (Utf8Tabs_below HT.out Hb5.out) (Ha.out.2.1 f (Hf1.out.1 f rfl).1) (Hb.out.2.1 g (Fg.out.1 g rfl).1) kE.out.1);change Hid (Calls _ _ _ _ fun e w'=>e=.returned (.bool (fits m f g))∧_) at yh;have x0:(w2.alloc (.cells #[.int .i64 g.kind,.string g.text,.int .i64 g.num] 174)).cell? ⟨wr.heap.size,0,none⟩=some (.string m.name):=uO.cell 0 _ rfl;have x1:(w2.alloc (.cells #[.int .i64 g.kind,.string g.text,.int .i64 g.num] 174)).cell? ⟨wr.heap.size,1,none⟩=some (.int .i64 m.how):=uO.cell 1 _ rfl;have x2:(w2.alloc (.cells #[.int .i64 g.kind,.string g.text,.int .i64 g.num] 174)).cell? ⟨wr.heap.size,2,none⟩=some (.int .i64 m.far):=uO.cell 2 _ rfl;have x3:(w2.alloc (.cells #[.int .i64 g.kind,.string g.text,.int .i64 g.num] 174)).cell? ⟨wr.heap.size,3,none⟩=some (.int .i64 m.pts):=uO.cell 3 _ rfl;have y0:(w2.alloc (.cells #[.int .i64 g.kind,.string g.text,.int .i64 g.num] 174)).cell? ⟨w1.heap.size,0,none⟩=some (.int .i64 f.kind):=zS.cell 0 _ rfl;have y1:(w2.alloc (.cells #[.int .i64 g.kind,.string g.text,.int .i64 g.num] 174)).cell? ⟨w1.heap.size,1,none⟩=some (.string f.text):=zS.cell 1 _ rfl;have y2:(w2.alloc (.cells #[.int .i64 g.kind,.string g.text,.int .i64 g.num] 174)).cell? ⟨w1.heap.size,2,none⟩=some (.int .i64 f.num):=zS.cell 2 _ rfl;have z0:(w2.alloc (.cells #[.int .i64 g.kind,.string g.text,.int .i64 g.num] 174)).cell? ⟨w2.heap.size,0,none⟩=some (.int .i64 g.kind):=MC.cell 0 _ rfl;have z1:(w2.alloc (.cells #[.int .i64 g.kind,.string g.text,.int .i64 g.num] 174)).cell? ⟨w2.heap.size,1,none⟩=some (.string g.text):=MC.cell 1 _ rfl
   have z2:(w2.alloc (.cells #[.int .i64 g.kind,.string g.text,.int .i64 g.num] 174)).cell? ⟨w2.heap.size,2,none⟩=some (.int .i64 g.num):=MC.cell 2 _ rfl;clear zS MC kE Hf1 Fg;go_wp2_with fail
   refine (yh.out).mono ?_;rintro e w5 ⟨rfl,hl5⟩;have rU:=Z9 (Hb5.out.trans (hl5.mono Hb5.out.size));have v3:w5.cell? ⟨wr.heap.size,3,none⟩=some (.int .i64 m.pts):=(LV.kb2 uO hl5 uO.lt).cell 3 _ rfl;clear x0 x1 x2 x3 y0 y1 y2 z0 z1 z2 hl5 yh Hb5 uO;by_cases hfit:fits m f g=true
   ·rw [hfit];have Hn:Hid (t + m.pts + fV a b (ms.drop (k + 1))=R):=by show _=_;rw [← bP.out,zT.out];simp only [Fb,hfit,if_true];omega
    clear bP zT;go_wp2_with fail
    go_roundw
    case rel=>exact ⟨k + 1,t + m.pts,by omega,by go_num,rfl,Hn.out,by omega,by omega,rU.out⟩
    case measure=>simp [intOf];omega
   ·have MF:fits m f g=false:=by simpa using hfit
    rw [MF];have Hn:Hid (t + fV a b (ms.drop (k + 1))=R):=by show _=_;rw [← bP.out,zT.out];simp [Fb,MF]
    clear bP zT;go_wp2_with fail
    go_roundw
    case rel=>exact ⟨k + 1,t,by omega,by go_num,rfl,Hn.out,by omega,by omega,rU.out⟩
    case measure=>simp [intOf];omega
  ·have Hn:Hid (t=R):=by show _=_;rw [← Hr.out,ZJ (by omega)];simp [fV]
   clear Hr;go_wp2_with fail
   go_ret;exact ⟨aH Hn.out,hbl⟩
end
section
open Go Go.RowKit
theorem Xt {p:Tc→Tc→Bool}:∀ (l:List Tc) (m:Tc),pick p m l=m∨pick p m l∈l
 | [],_=>.inl rfl
 | x::r,m=>by
  rw [pick];rcases Xt r (if p x m then x else m) with h | h
  ·rw [h];split
   ·exact .inr (Y2 ..)
   ·exact .inl rfl
  ·exact .inr (Zq _ h)
theorem CW {p:Tc→Tc→Bool}{m:Tc}{l:List Tc}:pick p m l∈m::l:=by
 rcases Xt (p:=p) l m with h | h
 ·rw [h];exact Y2 ..
 ·exact Zq _ h
theorem aex (how:Int)(srcs:List ByteArray)(x0:Tc)(r0:List Tc):kT how srcs x0 r0∈x0::r0:=by
 unfold kT;split
 ·exact CW
 ·split
  ·exact CW
  ·split
   ·exact CW
   ·split
    ·exact CW
    ·split
     ·split
      ·exact CW
      ·rename_i y t h;have h1:pick (yc (uK (if how=7 then -1 else 1))) y t∈(x0::r0).filter (fun x=> !jw x):=by
        rw [h];exact CW
       exact (List.mem_filter.1 h1).1
     ·exact CW
def Qs (sv:ByteArray→Tc→List Tc→Vt)(ts:List ak):Prop:=∀ at' nm x0 r0,selC nm (fH ts at')=x0::r0→(sv nm x0 r0).t.size≤200
theorem Xu {r:aP}{ts:List ak}(h:iy ts=0):Qs (kM r) ts:=fun at' nm x0 r0 hs=>by
 unfold kM;have h1:=aex (pz r nm) (pF r nm) x0 r0;rw [← hs] at h1;exact (Xd h _ h1).2.1
theorem adL {r:aP}{ts:List ak}(h:iy ts=0):Qs (mM r) ts:=fun at' nm x0 r0 hs=>by
 rw [← Vz h at' nm x0 r0 hs];exact Xu h at' nm x0 r0 hs
theorem V3 {sv:ByteArray→Tc→List Tc→Vt}{ts:List ak}(hv:Qs sv ts){at':List Nat}{l:List aQ}(h:nH sv (fH ts at') l)(hl:l.length≤30):uw l:=by
 refine ⟨hl,fun f hf=>?_,fun i j f g hij hf hg=>?_⟩
 ·obtain ⟨h1,h2⟩:=(h.2 f).1 hf;unfold nK at h2;split at h2
  ·rename_i h3;exact absurd h3 h1
  ·rename_i x0 r0 h3;rw [← h2];exact hv at' f.name x0 r0 h3
 ·obtain ⟨hi,rfl⟩:=List.getElem?_eq_some_iff.1 hf;obtain ⟨hj,rfl⟩:=List.getElem?_eq_some_iff.1 hg;exact List.pairwise_iff_getElem.1 h.1 i j hi hj hij
def oZ (sv:ByteArray→Tc→List Tc→Vt)(r:aP)(ts:List ak)(cc:Nat→Nat)(k:Nat)(K:List (ah×List aQ)):Prop :=
 K.length=k∧∀ (i h:Nat),i < k→(heads cc ts.length)[i]? =some h→∃ l,K[i]? =some (keyAt r ts h,l)∧nH sv (fH ts (partAt cc ts.length h)) l∧l.length≤30
theorem oZ.start (sv:ByteArray→Tc→List Tc→Vt)(r:aP)(ts:List ak)(cc:Nat→Nat):oZ sv r ts cc 0 []:=⟨rfl,fun i h hi=>by omega⟩
theorem oZ.snoc {sv:ByteArray→Tc→List Tc→Vt}{r:aP}{ts:List ak}{cc:Nat→Nat}{k h:Nat}{K:List (ah×List aQ)}{l:List aQ}(hK:oZ sv r ts cc k K)(hh:(heads cc ts.length)[k]? =some h)(hl:nH sv (fH ts (partAt cc ts.length h)) l)(hlen:l.length≤30):oZ sv r ts cc (k + 1) (K++[(keyAt r ts h,l)]):=by
 refine ⟨by rw [Z4,hK.1];rfl,fun i h' hi hh'=>?_⟩;by_cases e:i < k
 ·obtain ⟨l',h1,h2⟩:=hK.2 i h' e hh';exact ⟨l',by rw [Zy (by rw [hK.1];exact e)];exact h1,h2⟩
 ·obtain rfl:i=k:=by omega
  rw [hh] at hh';cases hh';refine ⟨l,?_,hl,hlen⟩;rw [ZF (by rw [hK.1];exact Z5 _),hK.1,Nat.sub_self];rfl
theorem oZ.uniq {sv uJ:ByteArray→Tc→List Tc→Vt}{r:aP}{ts:List ak}{cc:Nat→Nat}{K K2:List (ah×List aQ)}(h:oZ sv r ts cc (heads cc ts.length).length K)(g:oZ uJ r ts cc (heads cc ts.length).length K2)(hs:∀ at',Lm sv uJ ts at'):K=K2:=by
 refine Zu fun i=>?_;by_cases hi:i < (heads cc ts.length).length
 ·obtain ⟨h1,e1,r1,_⟩:=h.2 i _ hi (Z8 hi);obtain ⟨h2,e2,r2,_⟩:=g.2 i _ hi (Z8 hi);rw [e1,e2,r1.uniq r2 rfl (fun nm x0 r0=>hs _ nm x0 r0)]
 ·rw [ZG (by rw [h.1];omega),ZG (by rw [g.1];omega)]
def wE (sv:ByteArray→Tc→List Tc→Vt)(r:aP)(ts:List ak)(ms:List cu)(least:Int)(F:Int)(zs:List au):Prop :=
 (¬ (-100000≤least∧least≤100000)∧F=1∧zs=[])∨((-100000≤least∧least≤100000)∧∃ cc,iO ts.length (Edge r ts) cc ∧
  ((F=2∧zs=[]∧∃ (i h:Nat) (l:List aQ),(heads cc ts.length)[i]? =some h∧nH sv (fH ts (partAt cc ts.length h)) l∧30 < l.length) ∨
   (F=0∧∃ K,oZ sv r ts cc (heads cc ts.length).length K∧jk (gI K ms least (fG (heads cc ts.length).length (heads cc ts.length).length ((heads cc ts.length).length + 1))) zs)))
theorem aey {r:aP}{ts:List ak}{c d:Nat→Nat}(hc:iO ts.length (Edge r ts) c)(hd:iO ts.length (Edge r ts) d):heads c ts.length=heads d ts.length∧∀ i,partAt c ts.length i=partAt d ts.length i :=
 ⟨aez (fun _ hi=>hc.uniq hd hi),fun i=>aeA (fun _ hi=>hc.uniq hd hi) i⟩
theorem wE.uniq {sv uJ:ByteArray→Tc→List Tc→Vt}{r:aP}{ts:List ak}{ms:List cu}{least F F2:Int}{zs ys:List au}(h:wE sv r ts ms least F zs)(g:wE uJ r ts ms least F2 ys)(hs:∀ at',Lm sv uJ ts at'):F=F2∧zs=ys:=by
 rcases h with ⟨h1,rfl,rfl⟩ | ⟨h1,c,hc,h2⟩
 ·rcases g with ⟨_,rfl,rfl⟩ | ⟨g1,_⟩
  ·exact ⟨rfl,rfl⟩
  ·exact absurd g1 h1
 ·rcases g with ⟨g1,_⟩ | ⟨_,d,hd,g2⟩
  ·exact absurd h1 g1
  ·obtain ⟨e1,e2⟩:=aey hc hd;rw [← e1] at g2;simp only [← e2] at g2;rcases h2 with ⟨rfl,rfl,i,hh,l,q1,q2,q3⟩ | ⟨rfl,K,hK,hz⟩
   ·rcases g2 with ⟨rfl,rfl,_⟩ | ⟨_,K2,hK2,_⟩
    ·exact ⟨rfl,rfl⟩
    ·obtain ⟨l2,_,p2,p3⟩:=hK2.2 i hh (bM q1) (by rw [← e1];exact q1);rw [← e2] at p2;have:=q2.uniq p2 rfl (fun nm x0 r0=>hs _ nm x0 r0)
     subst this;omega
   ·have hK':oZ sv r ts d (heads d ts.length).length K:=by
     rw [← e1];refine ⟨hK.1,fun i hh hi hg=>?_⟩;rw [← e1] at hg;obtain ⟨l,p1,p2,p3⟩:=hK.2 i hh hi hg;exact ⟨l,p1,by rw [← e2];exact p2,p3⟩
    rcases g2 with ⟨_,_,i,hh,l,q1,q2,q3⟩ | ⟨rfl,K2,hK2,hy⟩
    ·obtain ⟨l2,_,p2,p3⟩:=hK.2 i hh (bM q1) q1;have:=p2.uniq q2 rfl (fun nm x0 r0=>hs _ nm x0 r0)
     subst this;omega
    ·rw [e1] at hK2;have:=hK'.uniq hK2 hs
     subst this;exact ⟨rfl,hz.uniq hy⟩
end
section
open Go Go.RowKit
structure RQ where
 A:Option Addr
 c:Nat
 l:List aQ
def RQ.cells (q:RQ):List Value:=[.slice q.A q.l.length q.c]
def iE:Rep RQ:=.flat 1 RQ.cells (fun _=>rfl)
theorem aeB:iE.Flat RQ.cells:=fun _ _ _ _=>Iff.rfl
theorem VX:kF 105 56 iE.size 24 (.slice none 0 0):=⟨Tryz.underlying105,by kernel_rfl,rfl,by decide⟩
theorem VY (q:RQ):∀ u∈q.cells,u.oneCell'=true:=fun u hu=>by
 simp only [RQ.cells,YU,YI,or_false] at hu;rcases hu with rfl <;> rfl
def Xv (M:Nat→Prop)(w:World)(qs:List RQ):Prop:=∀ q∈qs,Sl bK M w q.A q.l
def Chunk.iR (qs:List RQ):Chunk :=
 ⟨none,fun M w=>Xv M w qs,fun k hd _ h q hq=>(h q hq).keep (k.mono hd),fun hm h q hq=>(h q hq).mono (fun k hk e=>(hm k hk e).resolve_right (by simp)),fun _ _ e=>by cases e⟩
theorem Sl.rq {N:Nat→Prop}{w:World}{A:Option Addr}{xs:List RQ}(h:Sl iE N w A xs)(k:Nat)(x:RQ)(hk:xs[k]? =some x):∃ blk off,A=some ⟨blk,off,none⟩∧blk < w.heap.size∧w.cell? ⟨blk,off + k,none⟩=some (.slice x.A x.l.length x.c):=by
 obtain ⟨blk,off,l,e,h1,_,h3,h4⟩:=h k x hk;obtain rfl:l=RQ.cells x:=h3;have:=h4 0 _ rfl
 exact ⟨blk,off,e,h1,by simpa [iE,Rep.flat] using this⟩
theorem Own.aeC {M:Nat→Prop}{B E g n cap:Nat}{w:World}{xs:List RQ}(h:Own iE M B E w (.slice (some ⟨g,0,none⟩) n cap) xs)(hn:n=xs.length)(k:Nat)(x:RQ)(hk:xs[k]? =some x):w.cell? ⟨g,k,none⟩=some (.slice x.A x.l.length x.c):=by
 have:=(h.cellP aeB hn k x hk 0 _ rfl).1
 rw [show k * iE.size + 0=k by simp [iE,Rep.flat]] at this;exact this
section
variable {w0 w:World} {cs:List Chunk}
theorem Mem.rd (S:Mem w0 w cs)(i:Nat){qs:List RQ}(hi:cs[i]? =some (.iR qs)):Xv (bT w0.heap.size cs) w qs:=S.ok _ (Z7 hi)
theorem Mem.VT (S:Mem w0 w cs):Mem w0 w (cs++[.iR []]):=S.call (ZX _ _) (.iR []) (fun q hq=>by cases hq) (fun k e=>by cases e)
theorem Mem.VZ (S:Mem w0 w cs)(i:Nat){qs:List RQ}(hi:cs[i]? =some (.iR qs))(x:RQ)(hA:Sl bK (bT w0.heap.size cs) w x.A x.l):Mem w0 w (cs.set i (.iR (qs++[x]))):=by
 refine S.turn i hi (.iR (qs++[x])) rfl (fun q hq=>?_);rcases List.mem_append.1 hq with hq | hq
 ·exact S.rd i hi q hq
 ·rw [List.mem_singleton.1 hq];exact hA
end
end
section
open Go Go.RowKit
def au.cells (x:au):List Value:=[.int .i64 x.a.k,.string x.a.t,.int .i64 x.b.k,.string x.b.t,.int .i64 x.pts]
abbrev fJ (x:au):Array Value:=#[.int .i64 x.a.k,.string x.a.t,.int .i64 x.b.k,.string x.b.t,.int .i64 x.pts]
def aY:Rep au:=.flat 5 au.cells (fun _=>rfl)
theorem iZ:aY.Flat au.cells:=fun _ _ _ _=>Iff.rfl
theorem rV:kF 38 48 aY.size 56 (.agg #[.int .i64 0,.string ⟨#[]⟩,.int .i64 0,.string ⟨#[]⟩,.int .i64 0]):=⟨Tryz.underlying38,by kernel_rfl,rfl,by decide⟩
theorem CX (q:au):∀ u∈q.cells,u.oneCell'=true:=fun u hu=>by
 simp only [au.cells,YU,YI,or_false] at hu;rcases hu with rfl | rfl | rfl | rfl | rfl <;> rfl
theorem Sl.db {N:Nat→Prop}{w:World}{A:Option Addr}{xs:List au}(h:Sl aY N w A xs)(k:Nat)(x:au)(hk:xs[k]? =some x):∃ blk off,A=some ⟨blk,off,none⟩∧blk < w.heap.size ∧
  w.cell? ⟨blk,off + k * 5,none⟩=some (.int .i64 x.a.k)∧w.cell? ⟨blk,off + k * 5 + 1,none⟩=some (.string x.a.t)∧w.cell? ⟨blk,off + k * 5 + 2,none⟩=some (.int .i64 x.b.k)∧w.cell? ⟨blk,off + k * 5 + 3,none⟩=some (.string x.b.t)∧w.cell? ⟨blk,off + k * 5 + 4,none⟩=some (.int .i64 x.pts):=by
 obtain ⟨blk,off,l,e,h1,_,h3,h4⟩:=h k x hk;obtain rfl:l=au.cells x:=h3;exact ⟨blk,off,e,h1,h4 0 _ rfl,h4 1 _ rfl,h4 2 _ rfl,h4 3 _ rfl,h4 4 _ rfl⟩
theorem Own.uP {M:Nat→Prop}{B E g n cap:Nat}{w:World}{xs:List au}(h:Own aY M B E w (.slice (some ⟨g,0,none⟩) n cap) xs)(hn:n=xs.length)(k:Nat)(x:au)(hk:xs[k]? =some x) :
  (w.cell? ⟨g,k * 5,none⟩=some (.int .i64 x.a.k)∧w.cell? ⟨g,k * 5 + 1,none⟩=some (.string x.a.t)∧w.cell? ⟨g,k * 5 + 2,none⟩=some (.int .i64 x.b.k)∧w.cell? ⟨g,k * 5 + 3,none⟩=some (.string x.b.t)∧w.cell? ⟨g,k * 5 + 4,none⟩=some (.int .i64 x.pts)) ∧
  (w.frozen? ⟨g,k * 5,none⟩=false∧w.frozen? ⟨g,k * 5 + 1,none⟩=false∧w.frozen? ⟨g,k * 5 + 2,none⟩=false∧w.frozen? ⟨g,k * 5 + 3,none⟩=false∧w.frozen? ⟨g,k * 5 + 4,none⟩=false) :=
 ⟨⟨(h.cellP iZ hn k x hk 0 _ rfl).1,(h.cellP iZ hn k x hk 1 _ rfl).1,(h.cellP iZ hn k x hk 2 _ rfl).1,(h.cellP iZ hn k x hk 3 _ rfl).1,(h.cellP iZ hn k x hk 4 _ rfl).1⟩,(h.cellP iZ hn k x hk 0 _ rfl).2,(h.cellP iZ hn k x hk 1 _ rfl).2,(h.cellP iZ hn k x hk 2 _ rfl).2,(h.cellP iZ hn k x hk 3 _ rfl).2,(h.cellP iZ hn k x hk 4 _ rfl).2⟩
theorem Mem.Xw {w0 w:World}{cs:List Chunk}(S:Mem w0 w cs)(i:Nat){B E g n cap:Nat}{ys:List au}(hi:cs[i]? =some (.own aY B E (.slice (some ⟨g,0,none⟩) n cap) ys))(hn:n=ys.length)(p:Nat)(z x:au)(hz:ys[p]? =some z) :
  Mem w0 (((((w.setCell ⟨g,p * 5,none⟩ (.int .i64 x.a.k)).setCell ⟨g,p * 5 + 1,none⟩ (.string x.a.t)).setCell ⟨g,p * 5 + 2,none⟩ (.int .i64 x.b.k)).setCell ⟨g,p * 5 + 3,none⟩ (.string x.b.t)).setCell ⟨g,p * 5 + 4,none⟩ (.int .i64 x.pts)) (cs.set i (.own aY B E (.slice (some ⟨g,0,none⟩) n cap) (ys.set p x))):=by
 have hp:=bM hz;have hci:i < cs.length:=bM hi;have S1:=S.put iZ i hi hn p z (⟨⟨x.a.k,z.a.t⟩,⟨z.b.k,z.b.t⟩,z.pts,z.ix⟩:au) hz 0 (by decide) (.int .i64 x.a.k) rfl;have S2:=S1.put iZ i (by rw [ZY hci]) (by rw [ZU];exact hn) p (⟨⟨x.a.k,z.a.t⟩,⟨z.b.k,z.b.t⟩,z.pts,z.ix⟩:au) (⟨⟨x.a.k,x.a.t⟩,⟨z.b.k,z.b.t⟩,z.pts,z.ix⟩:au) (by rw [ZY hp]) 1 (by decide) (.string x.a.t) rfl;simp only [ZB] at S2;have S3:=S2.put iZ i (by rw [ZY hci]) (by rw [ZU];exact hn) p (⟨⟨x.a.k,x.a.t⟩,⟨z.b.k,z.b.t⟩,z.pts,z.ix⟩:au) (⟨⟨x.a.k,x.a.t⟩,⟨x.b.k,z.b.t⟩,z.pts,z.ix⟩:au) (by rw [ZY hp]) 2 (by decide) (.int .i64 x.b.k) rfl;simp only [ZB] at S3;have S4:=S3.put iZ i (by rw [ZY hci]) (by rw [ZU];exact hn) p (⟨⟨x.a.k,x.a.t⟩,⟨x.b.k,z.b.t⟩,z.pts,z.ix⟩:au) (⟨⟨x.a.k,x.a.t⟩,⟨x.b.k,x.b.t⟩,z.pts,z.ix⟩:au) (by rw [ZY hp]) 3 (by decide) (.string x.b.t) rfl;simp only [ZB] at S4;have S5:=S4.put iZ i (by rw [ZY hci]) (by rw [ZU];exact hn) p (⟨⟨x.a.k,x.a.t⟩,⟨x.b.k,x.b.t⟩,z.pts,z.ix⟩:au) (⟨⟨x.a.k,x.a.t⟩,⟨x.b.k,x.b.t⟩,x.pts,x.ix⟩:au) (by rw [ZY hp]) 4 (by decide) (.int .i64 x.pts) rfl;simp only [ZB] at S5;exact S5
end
end Go.Proofs.YtmkkppknaikjjaaGreatDoor
