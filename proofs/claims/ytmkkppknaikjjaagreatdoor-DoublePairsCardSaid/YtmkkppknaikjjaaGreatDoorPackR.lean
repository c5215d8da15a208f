/- Several texts in one: IdV, Map, MapId, Same. -/
import Derived.Test.YtmkkppknaikjjaaGreatDoorPackG
import Derived.Test.YtmkkppknaikjjaaGreatDoorPackQ
/- Ids in a list: slices.Contains and slices.Index of ids. -/
set_option maxHeartbeats 2000000
set_option maxRecDepth 100000
open Go.Lib renaming hid→Z9
open List renaming getElem?_eq_getElem→Z8, mem_of_getElem?→Z7, drop_eq_getElem_cons→Zz, mem_cons→YU
namespace Go.Proofs.YtmkkppknaikjjaaGreatDoor
section
open Go Go.RowKit
structure ah where
 k:Int
 t:ByteArray
def ah.cells (x:ah):List Value:=[.int .i64 x.k,.string x.t]
def aO:Rep ah:=.flat 2 ah.cells (fun _=>rfl)
theorem jg:aO.Flat ah.cells:=fun _ _ _ _=>Iff.rfl
theorem Sl.qx {N:Nat→Prop}{w:World}{A:Option Addr}{xs:List ah}(h:Sl aO N w A xs)(k:Nat)(x:ah)(hk:xs[k]? =some x):∃ blk off,A=some ⟨blk,off,none⟩∧blk < w.heap.size ∧
  w.cell? ⟨blk,off + k * 2,none⟩=some (.int .i64 x.k)∧w.cell? ⟨blk,off + k * 2 + 1,none⟩=some (.string x.t):=by
 obtain ⟨blk,off,l,e,h1,_,h3,h4⟩:=h k x hk;obtain rfl:l=ah.cells x:=h3;exact ⟨blk,off,e,h1,h4 0 _ rfl,h4 1 _ rfl⟩
instance:DecidableEq ah:=fun a b=>if h:a.k=b.k∧a.t=b.t then .isTrue (by cases a;cases b;simp_all) else .isFalse (fun e=>h (by rw [e];exact ⟨rfl,rfl⟩))
theorem ai5 {y x:ah}{xs:List ah}{k:Nat}(h:xs[k]? =some x)(hxy:¬ x=y):y∈xs.drop k ↔ y∈xs.drop (k + 1):=by
 obtain ⟨hk,rfl⟩:=List.getElem?_eq_some_iff.1 h;rw [Zz hk,YU];exact ⟨fun h=>h.elim (fun e=>absurd e.symm hxy) id,Or.inr⟩
theorem OI {x y:ah}(h1:x.k=y.k)(h2:(x.t.toList==y.t.toList)=true):x=y:=by
 obtain ⟨k,t⟩:=x;obtain ⟨k',t'⟩:=y;obtain rfl:k=k':=h1;have h3:t.toList=t'.toList:=by simpa using h2
 rw [ByteArray.toList_eq,ByteArray.toList_eq] at h3;obtain rfl:t=t':=by
  cases t;cases t';simp only [ByteArray.mk.injEq];exact Array.toList_inj.1 h3
 rfl
def ai6 (y:ah)(xs:List ah)(w:World)(e:Ending)(w':World):Prop:=∃ n:Int,e=.returned (.int .i64 n)∧decide (0≤n)=decide (y∈xs)∧Below w.heap.size w w'
theorem ai7 (N:Nat→Prop)(A:Option Addr)(xs:List ah)(c:Nat)(y:ah)(w:World)(hS:Sl aO N w A xs)(hl:xs.length≤1000000) :
  Calls Tryz.prog 106 #[.slice A xs.length c,.agg #[.int .i64 y.k,.string y.t]] w (ai6 y xs w):=by
 have S:=(Mem.start w).new' #[.int .i64 y.k,.string y.t] 46;replace S:Mem w (w.alloc (.cells #[.int .i64 y.k,.string y.t] 46)) [.loc w.heap.size #[.int .i64 y.k,.string y.t] 46]:=S;have HS:=Z9 (fun w' (h:Below w.heap.size w w')=>hS.aK h);clear hS;go_enter Tryz.func106,Tryz.ntmps106
 go_wp2_with fail
 generalize w.alloc (.cells #[.int .i64 y.k,.string y.t] 46)=w1 at *;go_loopw [5,8] (fun a i wr=>∃ k:Nat,k≤xs.length∧a=a∧i=.int .i64 k∧Hid (y∈xs ↔ y∈xs.drop k)∧Mem w wr [.loc w.heap.size #[.int .i64 y.k,.string y.t] 46]) (fun _ i _=>xs.length - (intOf i).toNat)
 case atStart=>exact ⟨0,by omega,rfl,rfl,Z9 Iff.rfl,S⟩
 case round =>
  clear S;obtain ⟨k,hk,-,rfl,hF,S⟩:=hrel;by_cases hlt:k < xs.length
  ·obtain ⟨x,hx⟩:∃ x,xs[k]? =some x:=⟨_,Z8 hlt⟩;have e0:=(S.lv 0 rfl).all;obtain ⟨blk,off,rfl,hbl,c0,c1⟩:=(HS.out _ S.b).qx k x hx;by_cases hxy:x=y
   ·have HG:Hid (y∈xs):=by show _;rw [← hxy];exact Z7 hx
    have h1:(y.k==x.k)=true:=by rw [hxy];exact beq_self_eq_true _
    have h2:(y.t.toList==x.t.toList)=true:=by rw [hxy];exact beq_self_eq_true _
    clear hxy hF hx;go_wp2_with fail
    go_quiet (fail)
    go_wp2_with fail
    go_ret;exact ⟨k,rfl,by rw [decide_eq_true HG.out];simp,(S.below (below_drewN _ _ _)).b⟩
   ·have HE:Hid (y∈xs ↔ y∈xs.drop (k + 1)):=by show _ ↔ _;rw [hF.out,ai5 hx hxy]
    by_cases h1:y.k=x.k
    ·have h1':(y.k==x.k)=true:=by simpa using h1
     have h2:(y.t.toList==x.t.toList)=false:=by
      cases h3:(y.t.toList==x.t.toList) with
      | false=>rfl
      | true=>exact absurd (OI h1 h3) (fun e=>hxy e.symm)
     clear hxy hF hx h1;go_wp2_with fail
     go_quiet (fail)
     go_wp2_with fail
     go_roundw
     case rel=>exact ⟨k + 1,by omega,trivial,by go_num,HE,S.below (below_drewN _ _ _)⟩
     case measure=>simp [intOf];omega
    ·have h1':(y.k==x.k)=false:=by simpa using h1
     clear hxy hF hx h1;go_wp2_with fail
     go_quiet (fail)
     go_wp2_with fail
     go_roundw
     case rel=>exact ⟨k + 1,by omega,trivial,by go_num,HE,S.below (below_drewN _ _ _)⟩
     case measure=>simp [intOf];omega
  ·obtain rfl:k=xs.length:=by omega
   have HG:Hid (¬ y∈xs):=by show ¬ _;rw [hF.out,List.drop_length];simp
   go_wp2_with fail
   go_ret;exact ⟨-1,rfl,by rw [decide_eq_false HG.out];simp,S.b⟩
theorem Oj (N:Nat→Prop)(A:Option Addr)(xs:List ah)(c:Nat)(y:ah)(w:World)(hS:Sl aO N w A xs)(hl:xs.length≤1000000) :
  Calls Tryz.prog 38 #[.slice A xs.length c,.agg #[.int .i64 y.k,.string y.t]] w fun e w'=>e=.returned (.bool (decide (y∈xs)))∧Below w.heap.size w w':=by
 have S:=(Mem.start w).new' #[.int .i64 y.k,.string y.t] 46;replace S:Mem w (w.alloc (.cells #[.int .i64 y.k,.string y.t] 46)) [.loc w.heap.size #[.int .i64 y.k,.string y.t] 46]:=S;have HI:=Z9 (ai7 N A xs c y _ (hS.aK S.b) hl);have c0:=(S.lv 0 rfl).all;clear hS;go_enter Tryz.func38,Tryz.ntmps38
 go_wp2_with fail
 refine (HI.out).mono ?_;rintro e w3 ⟨n,rfl,hn,hl3⟩;have Hn:=Z9 hn;have Hb:=Z9 (S.below hl3).b;clear hn hl3 S HI c0;go_wp2_with fail
 go_ret;exact ⟨fM Hn.out,Hb.out⟩
theorem ai8 {x y:ah}(h:¬ y=x):(y.k==x.k)=false∨((y.k==x.k)=true∧(y.t.toList==x.t.toList)=false):=by
 by_cases h1:y.k=x.k
 ·refine .inr ⟨by simpa using h1,?_⟩;cases h3:(y.t.toList==x.t.toList) with
  | false=>rfl
  | true=>exact absurd (OI h1 h3) h
 ·exact .inl (by simpa using h1)
theorem Own.xR {α:Type}{r:Rep α}{f:α→List Value}(hf:r.Flat f){M:Nat→Prop}{B E n c:Nat}{A:Option Addr}{w:World}{xs:List α}(h:Own r M B E w (.slice A n c) xs):Sl r (fun _=>False) w A xs:=by
 obtain ⟨A2,c2,e,_,hS⟩:=(h.FP hf (M':=fun _=>False)).Yq (fun _ _ h=>h);simp only [Value.slice.injEq] at e;obtain ⟨rfl,_,_⟩:=e;exact hS
end
section
open Go Go.RowKit Go.MapKept
section
variable {P:Program}
end
section
variable {ops:Array Oper} {rest:List Oper} {o:Oper} {a:Act} {Q:Exit→Act→World→Prop}
end
end
section
open Go Go.RowKit Go.MapKept
abbrev yX (x:ah):Value:=.agg #[.int .i64 x.k,.string x.t]
theorem aiH (x y:ah)(w:World):(Op.equal 46 (yX x) (yX y)).run Tryz.prog w=.ok (x.k==y.k && (x.t.toList==y.t.toList)) w:=by
 have u1:=Tryz.underlying3;have u2:=Tryz.underlying9;have a1:=Tryz.isAgg3;have a2:=Tryz.isAgg9;show (Op.equalIn (9999 + 1) 46 (.agg #[.int .i64 x.k,.string x.t]) (.agg #[.int .i64 y.k,.string y.t])).run Tryz.prog w=_;rw [run_equalIn_agg w 9999 46 _ _ (by kernel_rfl) (by kernel_rfl)];simp only [Program.fieldsOf,Tryz.underlying46];go_simp;by_cases h1:x.k=y.k <;> by_cases h2:x.t.toList=y.t.toList <;> simp [h1,h2]
theorem aiJ (x:ah)(b:Bool)(n:Nat)(w:World):(Instr.checkKey b (n + 2) 46 (yX x)).run Tryz.prog w=.ok () w:=by
 have u1:=Tryz.underlying3;have u2:=Tryz.underlying9;have u3:=Tryz.underlying46;have a1:=Tryz.isAgg3;have a2:=Tryz.isAgg9;simp only [Instr.checkKey,run_underlying u3,Sem.run_bind,Result.andThen_ok];simp [run_underlying u1,run_underlying u2];go_simp
theorem aiI (x y:ah):(x.k==y.k && (x.t.toList==y.t.toList))=decide (x=y):=by
 by_cases h:x=y
 ·subst h;simp
 ·rw [decide_eq_false h];rcases ai8 (x:=y) (y:=x) h with h1 | ⟨h1,h2⟩
  ·rw [h1];rfl
  ·rw [h1,h2];rfl
theorem aiK (x:ah):Instr.sameBits 10000 (yX x) (yX x)=true:=by
 show (true && (Instr.sameBits 9999 (.int .i64 x.k) (.int .i64 x.k) && (Instr.sameBits 9999 (.string x.t) (.string x.t) && true)))=true;simp only [Instr.sameBits,beq_self_eq_true,Bool.true_and,Bool.and_true];show (x.t.data==x.t.data)=true;exact beq_self_eq_true _
section
variable {ops:Array Oper} {rest:List Oper} {o:Oper} {a:Act} {Q:Exit→Act→World→Prop}
end
end
section
open Go Go.RowKit
end
end Go.Proofs.YtmkkppknaikjjaaGreatDoor
