/- Several texts in one: IdV, Map, MapId, Same. -/
import Derived.Test.YtmkkppknaikjjaaGreatDoorPixW
import Derived.Test.YtmkkppknaikjjaaGreatDoorPixI
import Derived.Test.YtmkkppknaikjjaaGreatDoorPixM
import Derived.Test.YtmkkppknaikjjaaGreatDoorPixB
import Derived.Deep.DeepCutAuto
import Derived.Maps.OwnOps
import Derived.Carry
import Derived.WideKeyRuns
import Derived.Test.YtmkkppknaikjjaaGreatDoorPixE
import Derived.Test.YtmkkppknaikjjaaGreatDoorPixG
import Derived.Test.YtmkkppknaikjjaaGreatDoorPixQ
/- Ids in a list: slices.Contains and slices.Index of ids. -/
namespace Go.Proofs.YtmkkppknaikjjaaGreatDoor
section
open Go Go.RowKit
structure IdV where
 k:Int
 t:ByteArray
def IdV.cells (x:IdV):List Value:=[.int .i64 x.k,.string x.t]
def rId:Rep IdV:=.flat 2 IdV.cells (fun _=>rfl)
theorem flatId:rId.Flat IdV.cells:=fun _ _ _ _=>Iff.rfl
theorem Sl.idv {N:Nat→Prop}{w:World}{A:Option Addr}{xs:List IdV}(h:Sl rId N w A xs)(k:Nat)(x:IdV)(hk:xs[k]? =some x):∃ blk off,A=some ⟨blk,off,none⟩∧blk < w.heap.size ∧
  w.cell? ⟨blk,off + k * 2,none⟩=some (.int .i64 x.k)∧w.cell? ⟨blk,off + k * 2 + 1,none⟩=some (.string x.t):=by
 obtain ⟨blk,off,l,e,h1,_,h3,h4⟩:=h k x hk;obtain rfl:l=IdV.cells x:=h3;exact ⟨blk,off,e,h1,h4 0 _ rfl,h4 1 _ rfl⟩
instance:DecidableEq IdV:=fun a b=>if h:a.k=b.k∧a.t=b.t then .isTrue (by cases a;cases b;simp_all) else .isFalse (fun e=>h (by rw [e];exact ⟨rfl,rfl⟩))
theorem mem_drop {y x:IdV}{xs:List IdV}{k:Nat}(h:xs[k]? =some x)(hxy:¬ x=y):y∈xs.drop k ↔ y∈xs.drop (k + 1):=by
 obtain ⟨hk,rfl⟩:=List.getElem?_eq_some_iff.1 h;rw [List.drop_eq_getElem_cons hk,List.mem_cons];exact ⟨fun h=>h.elim (fun e=>absurd e.symm hxy) id,Or.inr⟩
theorem idv_eq {x y:IdV}(h1:x.k=y.k)(h2:(x.t.toList==y.t.toList)=true):x=y:=by
 obtain ⟨k,t⟩:=x;obtain ⟨k',t'⟩:=y;obtain rfl:k=k':=h1;have h3:t.toList=t'.toList:=by simpa using h2
 rw [ByteArray.toList_eq,ByteArray.toList_eq] at h3;obtain rfl:t=t':=by
  cases t;cases t';simp only [ByteArray.mk.injEq];exact Array.toList_inj.1 h3
 rfl
def GivesIx (y:IdV)(xs:List IdV)(w:World)(e:Ending)(w':World):Prop:=∃ n:Int,e=.returned (.int .i64 n)∧decide (0≤n)=decide (y∈xs)∧Below w.heap.size w w'
set_option maxHeartbeats 2000000 in
set_option maxRecDepth 100000 in
theorem indexId_any (N:Nat→Prop)(A:Option Addr)(xs:List IdV)(c:Nat)(y:IdV)(w:World)(hS:Sl rId N w A xs)(hl:xs.length≤1000000) :
  Calls Tryz.prog 106 #[.slice A xs.length c,.agg #[.int .i64 y.k,.string y.t]] w (GivesIx y xs w):=by
 have S:=(Mem.start w).new' #[.int .i64 y.k,.string y.t] 46;replace S:Mem w (w.alloc (.cells #[.int .i64 y.k,.string y.t] 46)) [.loc w.heap.size #[.int .i64 y.k,.string y.t] 46]:=S;have HS:=Lib.hid (fun w' (h:Below w.heap.size w w')=>hS.keepB h);clear hS;go_enter Tryz.func106,Tryz.ntmps106
 go_wp2_with fail
 generalize w.alloc (.cells #[.int .i64 y.k,.string y.t] 46)=w1 at *;go_loopw [5,8] (fun a i wr=>∃ k:Nat,k≤xs.length∧a=a∧i=.int .i64 k∧Hid (y∈xs ↔ y∈xs.drop k)∧Mem w wr [.loc w.heap.size #[.int .i64 y.k,.string y.t] 46]) (fun _ i _=>xs.length - (intOf i).toNat)
 case atStart=>exact ⟨0,by omega,rfl,rfl,Lib.hid Iff.rfl,S⟩
 case round =>
  clear S;obtain ⟨k,hk,-,rfl,hF,S⟩:=hrel;by_cases hlt:k < xs.length
  ·obtain ⟨x,hx⟩:∃ x,xs[k]? =some x:=⟨_,List.getElem?_eq_getElem hlt⟩;have e0:=(S.lv 0 rfl).all;obtain ⟨blk,off,rfl,hbl,c0,c1⟩:=(HS.out _ S.b).idv k x hx;by_cases hxy:x=y
   ·have HG:Hid (y∈xs):=by show _;rw [← hxy];exact List.mem_of_getElem? hx
    have h1:(y.k==x.k)=true:=by rw [hxy];exact beq_self_eq_true _
    have h2:(y.t.toList==x.t.toList)=true:=by rw [hxy];exact beq_self_eq_true _
    clear hxy hF hx;go_wp2_with fail
    go_quiet (fail)
    go_wp2_with fail
    go_ret;exact ⟨k,rfl,by rw [decide_eq_true HG.out];simp,(S.below (below_drewN _ _ _)).b⟩
   ·have HE:Hid (y∈xs ↔ y∈xs.drop (k + 1)):=by show _ ↔ _;rw [hF.out,mem_drop hx hxy]
    by_cases h1:y.k=x.k
    ·have h1':(y.k==x.k)=true:=by simpa using h1
     have h2:(y.t.toList==x.t.toList)=false:=by
      cases h3:(y.t.toList==x.t.toList) with
      | false=>rfl
      | true=>exact absurd (idv_eq h1 h3) (fun e=>hxy e.symm)
     clear hxy hF hx h1;go_wp2_with fail
     go_quiet (fail)
     go_wp2_with fail
     go_roundw
     case rel=>exact ⟨k + 1,by omega,trivial,by go_num,HE,S.below (below_drewN _ _ _)⟩
     case measure=>simp [intOf];omega
    ·have h1':(y.k==x.k)=false:=by simpa using h1
     clear hxy hF hx h1;go_wp2_with fail
     go_quiet (fail)
     go_wp2_with fail
     go_roundw
     case rel=>exact ⟨k + 1,by omega,trivial,by go_num,HE,S.below (below_drewN _ _ _)⟩
     case measure=>simp [intOf];omega
  ·obtain rfl:k=xs.length:=by omega
   have HG:Hid (¬ y∈xs):=by show ¬ _;rw [hF.out,List.drop_length];simp
   go_wp2_with fail
   go_ret;exact ⟨-1,rfl,by rw [decide_eq_false HG.out];simp,S.b⟩
theorem containsId_any (N:Nat→Prop)(A:Option Addr)(xs:List IdV)(c:Nat)(y:IdV)(w:World)(hS:Sl rId N w A xs)(hl:xs.length≤1000000) :
  Calls Tryz.prog 38 #[.slice A xs.length c,.agg #[.int .i64 y.k,.string y.t]] w fun e w'=>e=.returned (.bool (decide (y∈xs)))∧Below w.heap.size w w':=by
 have S:=(Mem.start w).new' #[.int .i64 y.k,.string y.t] 46;replace S:Mem w (w.alloc (.cells #[.int .i64 y.k,.string y.t] 46)) [.loc w.heap.size #[.int .i64 y.k,.string y.t] 46]:=S;have HI:=Lib.hid (indexId_any N A xs c y _ (hS.keepB S.b) hl);have c0:=(S.lv 0 rfl).all;clear hS;go_enter Tryz.func38,Tryz.ntmps38
 go_wp2_with fail
 refine (HI.out).mono ?_;rintro e w3 ⟨n,rfl,hn,hl3⟩;have Hn:=Lib.hid hn;have Hb:=Lib.hid (S.below hl3).b;clear hn hl3 S HI c0;go_wp2_with fail
 go_ret;exact ⟨ret_b Hn.out,Hb.out⟩
theorem idv_ne {x y:IdV}(h:¬ y=x):(y.k==x.k)=false∨((y.k==x.k)=true∧(y.t.toList==x.t.toList)=false):=by
 by_cases h1:y.k=x.k
 ·refine .inr ⟨by simpa using h1,?_⟩;cases h3:(y.t.toList==x.t.toList) with
  | false=>rfl
  | true=>exact absurd (idv_eq h1 h3) h
 ·exact .inl (by simpa using h1)
theorem Own.slF {α:Type}{r:Rep α}{f:α→List Value}(hf:r.Flat f){M:Nat→Prop}{B E n c:Nat}{A:Option Addr}{w:World}{xs:List α}(h:Own r M B E w (.slice A n c) xs):Sl r (fun _=>False) w A xs:=by
 obtain ⟨A2,c2,e,_,hS⟩:=(h.flatM hf (M':=fun _=>False)).toSlC (fun _ _ h=>h);simp only [Value.slice.injEq] at e;obtain ⟨rfl,_,_⟩:=e;exact hS
end
section
open Go Go.RowKit Go.MapKept
section
variable {P:Program}
end
section
variable {ops:Array Oper} {rest:List Oper} {o:Oper} {a:Act} {Q:Exit→Act→World→Prop}
end
end
section
open Go Go.RowKit Go.MapKept
abbrev idVal (x:IdV):Value:=.agg #[.int .i64 x.k,.string x.t]
theorem eqId_run (x y:IdV)(w:World):(Op.equal 46 (idVal x) (idVal y)).run Tryz.prog w=.ok (x.k==y.k && (x.t.toList==y.t.toList)) w:=by
 have u1:=Tryz.underlying3;have u2:=Tryz.underlying9;have a1:=Tryz.isAgg3;have a2:=Tryz.isAgg9;show (Op.equalIn (9999 + 1) 46 (.agg #[.int .i64 x.k,.string x.t]) (.agg #[.int .i64 y.k,.string y.t])).run Tryz.prog w=_;rw [run_equalIn_agg w 9999 46 _ _ (by kernel_rfl) (by kernel_rfl)];simp only [Program.fieldsOf,Tryz.underlying46];go_simp;by_cases h1:x.k=y.k <;> by_cases h2:x.t.toList=y.t.toList <;> simp [h1,h2]
theorem chkId_n (x:IdV)(b:Bool)(n:Nat)(w:World):(Instr.checkKey b (n + 2) 46 (idVal x)).run Tryz.prog w=.ok () w:=by
 have u1:=Tryz.underlying3;have u2:=Tryz.underlying9;have u3:=Tryz.underlying46;have a1:=Tryz.isAgg3;have a2:=Tryz.isAgg9;simp only [Instr.checkKey,run_underlying u3,Sem.run_bind,Result.andThen_ok];simp [run_underlying u1,run_underlying u2];go_simp
theorem eqId_dec (x y:IdV):(x.k==y.k && (x.t.toList==y.t.toList))=decide (x=y):=by
 by_cases h:x=y
 ·subst h;simp
 ·rw [decide_eq_false h];rcases idv_ne (x:=y) (y:=x) h with h1 | ⟨h1,h2⟩
  ·rw [h1];rfl
  ·rw [h1,h2];rfl
theorem sameId (x:IdV):Instr.sameBits 10000 (idVal x) (idVal x)=true:=by
 show (true && (Instr.sameBits 9999 (.int .i64 x.k) (.int .i64 x.k) && (Instr.sameBits 9999 (.string x.t) (.string x.t) && true)))=true;simp only [Instr.sameBits,beq_self_eq_true,Bool.true_and,Bool.and_true];show (x.t.data==x.t.data)=true;exact beq_self_eq_true _
section
variable {ops:Array Oper} {rest:List Oper} {o:Oper} {a:Act} {Q:Exit→Act→World→Prop}
end
end
section
open Go Go.RowKit
set_option maxHeartbeats 4000000 in
set_option maxRecDepth 100000 in
theorem eqFld_any (N:Nat→Prop)(A A2:Option Addr)(xs:List Fld)(c c2:Nat)(w:World)(h1:Sl rFld N w A xs)(h2:Sl rFld N w A2 xs)(hl:xs.length≤1000000000) :
  Calls Tryz.prog 109 #[.slice A xs.length c,.slice A2 xs.length c2] w fun e w'=>e=.returned (.bool true)∧Below w.heap.size w w':=by
 have H1:=Lib.hid h1;have H2:=Lib.hid h2;clear h1 h2;go_enter Tryz.func109,Tryz.ntmps109
 go_wp2_with fail
 go_loopw [13] (fun i wr=>∃ j:Nat,j≤xs.length∧i=.int .i64 j∧Below w.heap.size w wr) (fun i _=>xs.length - (intOf i).toNat)
 case atStart=>exact ⟨0,Nat.zero_le _,rfl,Below.refl _ _⟩
 case round =>
  obtain ⟨j,hj,rfl,hb⟩:=hrel;by_cases hlt:j < xs.length
  ·obtain ⟨e,hf⟩:∃ e,xs[j]? =some e:=⟨_,List.getElem?_eq_getElem hlt⟩;obtain ⟨b1,o1,rfl,_,d0,d1,d2,d3⟩:=(H1.out.keepB hb).fld j e hf;obtain ⟨b2,o2,rfl,_,f0,f1,f2,f3⟩:=(H2.out.keepB hb).fld j e hf;clear hf;go_wp2_with fail
   go_quiet (fail)
   go_wp2_with fail
   go_roundw
   case rel=>exact ⟨j + 1,by omega,by go_num,hb.trans (below_drewN _ _ _)⟩
   case measure=>simp [intOf];omega
  ·go_wp2_with fail
   go_ret;exact ⟨rfl,hb⟩
def GivesFl (l:List Fld)(w:World)(e:Ending)(w':World):Prop:=∃ A c,e=.returned (.slice A l.length c)∧Mem w w' [.sl rFld A l]
set_option maxHeartbeats 4000000 in
set_option maxRecDepth 100000 in
theorem cloneF_any (A:Option Addr)(l:List Fld)(c:Nat)(w:World)(hL:Sl rFld (fun _=>False) w A l)(hl:l.length≤1000) :
  Calls Tryz.prog 160 #[.slice A l.length c] w (GivesFl l w):=by
 have he:∀ (a:Option Addr) (n c:Nat) (w:World),(binOp .eql 56 (.slice a n c) (.slice none 0 0)).run Tryz.prog w=.ok (.bool a.isNone) w:=fun a n c w=>Lib.run_eql_slice_nil w _ _ a n c 0 0 tyFld.under;cases A with
 | none =>
  obtain rfl:=Sl.nilOf hL;have S:Mem w w [.sl rFld none []]:=((Mem.start w).nil rFld w.heap.size 176).frz 0 rfl |>.elim fun A h=>h.elim fun c h=>by
   obtain ⟨h1,h2⟩:=h;cases h1;exact h2
  go_enter Tryz.func160,Tryz.ntmps160
  go_wp2_with fail
  go_ret;exact ⟨none,0,rfl,S⟩
 | some ad =>
  have S:=(Mem.start w).newAt #[] 176 w.heap.size rfl;have S1:Mem w (w.alloc (.cells #[] 176)) [.own rFld w.heap.size 176 (.slice (some ⟨w.heap.size,0,none⟩) 0 0) []]:=S.room (r:=rFld) 0 rfl rfl (by decide) rfl;have Hc:=Lib.hid (Sl.flatCells flatFld (fun _=>rfl) (hL.keepB S1.b));have hsz:=S1.b.size;have HS:=Lib.hid S1;have Hl:=Lib.hid hl;clear S S1 hL hl;go_enter Tryz.func160,Tryz.ntmps160
  go_wp2_with (at_builtin;refine HS.out.appN flatFld 0 rfl tyFld rfl _ _ rfl l l.length c rfl rfl ad rfl Hc.out (fun y _=>oneFld y) (fun _=>rfl) hsz (by simp only [List.length_nil];have:=Hl.out;omega) (by decide) ?_;intro v5 w5 S5)
  obtain ⟨A5,c5,e5,S6⟩:=S5.frz 0 rfl;go_ret;exact ⟨A5,c5,by rw [e5];rfl,S6⟩
end
end Go.Proofs.YtmkkppknaikjjaaGreatDoor
