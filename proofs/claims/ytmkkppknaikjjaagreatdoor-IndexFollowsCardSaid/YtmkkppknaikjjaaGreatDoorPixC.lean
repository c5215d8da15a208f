/- Several texts in one: TchLaw, Contains, TchChk, TchRef, RulChk, RulRef. -/
import Derived.Test.YtmkkppknaikjjaaGreatDoorPixR
import Derived.Test.YtmkkppknaikjjaaGreatDoorPixQ
import Derived.Test.YtmkkppknaikjjaaGreatDoorPixV
import Derived.Test.YtmkkppknaikjjaaGreatDoorPixW
import Derived.Test.YtmkkppknaikjjaaGreatDoorShix
import Derived.Test.YtmkkppknaikjjaaGreatDoorPixI
import Derived.Test.YtmkkppknaikjjaaGreatDoorPixM
import Derived.Test.YtmkkppknaikjjaaGreatDoorPixB
import Derived.Deep.DeepCutAuto
import Derived.Test.YtmkkppknaikjjaaGreatDoorPixE
import Derived.RegionTactic
/- Touches, and rules of joining: how they lie in memory, and their faults in plain words. -/
namespace Go.Proofs.YtmkkppknaikjjaaGreatDoor
section
open Go Go.RowKit
structure Tch where
 no:Int
 at':Int
 src:ByteArray
 ids:List IdV
 flds:List Fld
def Tch.cells (t:Tch):List Value:=[.int .i64 t.no,.int .i64 t.at',.string t.src]
def rTch:Rep Tch:=(((Rep.flat 3 Tch.cells (fun _=>rfl)).app rId.list).app rFld.list).via (fun t=>((t,t.ids),t.flds))
abbrev tcCs (t:Tch)(A:Option Addr)(c:Nat)(B:Option Addr)(d:Nat):Array Value:=#[.int .i64 t.no,.int .i64 t.at',.string t.src,.slice A t.ids.length c,.slice B t.flds.length d]
theorem rTch_mk {N:Nat→Prop}{w:World}{t:Tch}{A B:Option Addr}{c d:Nat}(hA:Sl rId N w A t.ids)(hB:Sl rFld N w B t.flds):rTch.rel N w t (tcCs t A c B d).toList :=
 ⟨Tch.cells t++[.slice A t.ids.length c],[.slice B t.flds.length d],rfl,⟨Tch.cells t,[.slice A t.ids.length c],rfl,rfl,A,c,rfl,hA⟩,B,d,rfl,hB⟩
theorem rTch_of {N:Nat→Prop}{w:World}{t:Tch}{l:List Value}(h:rTch.rel N w t l):∃ A c B d,l=(tcCs t A c B d).toList∧Sl rId N w A t.ids∧Sl rFld N w B t.flds:=by
 obtain ⟨_,_,rfl,⟨l1,_,rfl,h1,A,c,rfl,hA⟩,B,d,rfl,hB⟩:=h;obtain rfl:l1=Tch.cells t:=h1;exact ⟨A,c,B,d,rfl,hA,hB⟩
theorem Sl.tch {N:Nat→Prop}{w:World}{A:Option Addr}{xs:List Tch}(h:Sl rTch N w A xs)(k:Nat)(t:Tch)(hk:xs[k]? =some t):∃ blk off Ai ci Af cf,A=some ⟨blk,off,none⟩∧blk < w.heap.size ∧
  w.cell? ⟨blk,off + k * 5,none⟩=some (.int .i64 t.no)∧w.cell? ⟨blk,off + k * 5 + 1,none⟩=some (.int .i64 t.at')∧w.cell? ⟨blk,off + k * 5 + 2,none⟩=some (.string t.src)∧w.cell? ⟨blk,off + k * 5 + 3,none⟩=some (.slice Ai t.ids.length ci) ∧
  w.cell? ⟨blk,off + k * 5 + 4,none⟩=some (.slice Af t.flds.length cf)∧Sl rId N w Ai t.ids∧Sl rFld N w Af t.flds:=by
 obtain ⟨blk,off,l,e1,h1,_,h3,h4⟩:=h k t hk;obtain ⟨Ai,ci,Af,cf,rfl,hi,hf⟩:=rTch_of h3;exact ⟨blk,off,Ai,ci,Af,cf,e1,h1,h4 0 _ rfl,h4 1 _ rfl,h4 2 _ rfl,h4 3 _ rfl,h4 4 _ rfl,hi,hf⟩
structure TchOk (t:Tch):Prop where
 sr:t.src.size≤1000000
 il:t.ids.length≤1000000
 it:∀ x∈t.ids,x.t.size≤1000000
 fl:t.flds.length≤1000000
 fs:∀ f∈t.flds,f.small
structure TchsOk (l:List Tch):Prop where
 len:l.length≤1000000
 ok:∀ t∈l,TchOk t
def cmpId (x y:IdV):Int:=idCmp x.k x.t y.k y.t
theorem cmpId_lex:cmpId=lexC (fun a b=>Lib.compareInt a.k b.k) (fun a b=>cmpS a.t b.t):=by
 funext a b
 unfold cmpId idCmp lexC Lib.compareInt;by_cases h1:a.k < b.k
 ·simp [h1]
 ·by_cases h2:a.k=b.k
  ·simp [h2]
  ·have h3:b.k < a.k:=by omega
   simp [h1,h2,h3]
theorem cmpId_ok:CmpOk cmpId:=by
 rw [cmpId_lex];exact (cmpOkI.of IdV.k).lex (cmpOkS.of IdV.t)
theorem cmpId_zero {a b:IdV}(h:cmpId a b=0):a=b:=by
 unfold cmpId idCmp at h;split at h
 ·omega
 ·split at h
  ·rename_i h1;obtain ⟨k,t⟩:=a;obtain ⟨k',t'⟩:=b;obtain rfl:k=k':=h1;obtain rfl:t=t':=(cmpS_zero _ _).1 h;rfl
  ·omega
def notUp (prev:Option IdV)(x:IdV):Bool:=prev.any (fun p=>decide (cmpId x p≤0))
def idGE (F:Int)(B:Bool):Int:=if F≠0 then F else if B=true then 7 else 0
def idsGo (prev:Option IdV):List IdV→Int
 | []=>0
 | x::r=>if idGE (L.idFault x.k x.t) (notUp prev x)≠0 then idGE (L.idFault x.k x.t) (notUp prev x) else idsGo (some x) r
def idsUp (l:List IdV):Int:=idsGo none l
theorem idsGo_at {prev:Option IdV}{l:List IdV}{k:Nat}{x:IdV}(h:l[k]? =some x):idsGo prev (l.drop k)=if idGE (L.idFault x.k x.t) (notUp prev x)≠0 then idGE (L.idFault x.k x.t) (notUp prev x) else idsGo (some x) (l.drop (k + 1)):=by
 rw [drop_at3 h,idsGo]
def tchE (D O K:Bool)(n:Nat)(F G:Int):Int:=if D=false then 1 else if O=true then 7 else if K=false then 5 else if n=0 then 3 else if 10 < n then 2 else if F≠0 then F else G
def tchFault (t:Tch)(last:Int):Int:=tchE (decide (1≤t.no∧t.no≤1000000) && decide (0≤t.at'∧t.at'≤4321439)) (decide (t.no≤last)) (L.isKey t.src) t.ids.length (idsUp t.ids) (fldsFault t.flds)
def tchsGo (last:Int):List Tch→Int
 | []=>0
 | t::r=>if tchFault t last≠0 then tchFault t last else tchsGo t.no r
def tchsFault (l:List Tch):Int:=if 2000 < l.length then 2 else tchsGo 0 l
theorem tchsGo_at {last:Int}{l:List Tch}{k:Nat}{t:Tch}(h:l[k]? =some t):tchsGo last (l.drop k)=if tchFault t last≠0 then tchFault t last else tchsGo t.no (l.drop (k + 1)):=by
 rw [drop_at3 h,tchsGo]
def Rep.listC {α:Type}(r:Rep α):Rep (List α) :=
 ⟨1,fun N w xs l=>∃ A c,l=[.slice A xs.length c]∧xs.length≤c∧Sl r N w A xs,fun ⟨_,_,e,_⟩=>by rw [e];rfl,fun k ⟨A,c,e,hc,h⟩=>⟨A,c,e,hc,h.keep k⟩,fun k ⟨A,c,e,hc,h⟩=>⟨A,c,e,hc,h.mono k⟩⟩
structure Srv where
 name:ByteArray
 how:Int
 srcs:List ByteArray
def Srv.cells (s:Srv):List Value:=[.string s.name,.int .i64 s.how]
def rSrv:Rep Srv:=((Rep.flat 2 Srv.cells (fun _=>rfl)).app rStr.listC).via (fun s=>(s,s.srcs))
abbrev svCs (s:Srv)(A:Option Addr)(c:Nat):Array Value:=#[.string s.name,.int .i64 s.how,.slice A s.srcs.length c]
theorem rSrv_mk {N:Nat→Prop}{w:World}{s:Srv}{A:Option Addr}{c:Nat}(hc:s.srcs.length≤c)(h:Sl rStr N w A s.srcs):rSrv.rel N w s (svCs s A c).toList:=⟨Srv.cells s,[.slice A s.srcs.length c],rfl,rfl,A,c,rfl,hc,h⟩
theorem rSrv_of {N:Nat→Prop}{w:World}{s:Srv}{l:List Value}(h:rSrv.rel N w s l):∃ A c,l=(svCs s A c).toList∧s.srcs.length≤c∧Sl rStr N w A s.srcs:=by
 obtain ⟨l1,l2,rfl,h1,A,c,rfl,hc,h2⟩:=h;obtain rfl:l1=Srv.cells s:=h1;exact ⟨A,c,rfl,hc,h2⟩
theorem Sl.srv {N:Nat→Prop}{w:World}{A:Option Addr}{xs:List Srv}(h:Sl rSrv N w A xs)(k:Nat)(s:Srv)(hk:xs[k]? =some s):∃ blk off As cs,A=some ⟨blk,off,none⟩∧blk < w.heap.size ∧
  w.cell? ⟨blk,off + k * 3,none⟩=some (.string s.name)∧w.cell? ⟨blk,off + k * 3 + 1,none⟩=some (.int .i64 s.how)∧w.cell? ⟨blk,off + k * 3 + 2,none⟩=some (.slice As s.srcs.length cs)∧s.srcs.length≤cs∧Sl rStr N w As s.srcs:=by
 obtain ⟨blk,off,l,e1,h1,_,h3,h4⟩:=h k s hk;obtain ⟨As,cs,rfl,hc,hs⟩:=rSrv_of h3;exact ⟨blk,off,As,cs,e1,h1,h4 0 _ rfl,h4 1 _ rfl,h4 2 _ rfl,hc,hs⟩
structure Rul where
 kinds:List Int
 most:Int
 weak:List IdV
 surv:List Srv
abbrev ruCs (r:Rul)(K:Option Addr)(ck:Nat)(W:Option Addr)(cw:Nat)(S:Option Addr)(cs:Nat):Array Value:=#[.slice K r.kinds.length ck,.int .i64 r.most,.slice W r.weak.length cw,.slice S r.surv.length cs]
structure RulIn (N:Nat→Prop) (w:World) (r:Rul) (K W S:Option Addr):Prop where
 kd:Sl rInt N w K r.kinds
 wk:Sl rId N w W r.weak
 sv:Sl rSrv N w S r.surv
theorem RulIn.keepB {N:Nat→Prop}{w w':World}{r:Rul}{K W S:Option Addr}(h:RulIn N w r K W S)(k:Below w.heap.size w w'):RulIn N w' r K W S:=⟨h.kd.keepB k,h.wk.keepB k,h.sv.keepB k⟩
structure RulOk (r:Rul):Prop where
 kl:r.kinds.length≤1000000
 wl:r.weak.length≤1000000
 wt:∀ x∈r.weak,x.t.size≤1000000
 sl:r.surv.length≤1000000
 sn:∀ s∈r.surv,s.name.size≤1000000
 ss:∀ s∈r.surv,s.srcs.length≤1000000
 st:∀ s∈r.surv,∀ x∈s.srcs,x.size≤1000000
abbrev isKd (k:Int):Bool:=decide (1≤k∧k≤4)
abbrev isHow (k:Int):Bool:=decide (1≤k∧k≤7)
def kdF (prev:Option Int)(k:Int):Int:=if isKd k=false then 4 else if prev.any (fun p=>decide (k≤p)) then 7 else 0
def kdsGo (prev:Option Int):List Int→Int
 | []=>0
 | k::r=>if kdF prev k≠0 then kdF prev k else kdsGo (some k) r
theorem kdsGo_at {prev:Option Int}{l:List Int}{k:Nat}{x:Int}(h:l[k]? =some x):kdsGo prev (l.drop k)=if kdF prev x≠0 then kdF prev x else kdsGo (some x) (l.drop (k + 1)):=by
 rw [drop_at3 h,kdsGo]
def srF (seen:List ByteArray)(x:ByteArray):Int:=if L.isKey x=false then 5 else if seen.any (fun y=>y.toList==x.toList) then 6 else 0
def srsGo (seen:List ByteArray):List ByteArray→Int
 | []=>0
 | x::r=>if srF seen x≠0 then srF seen x else srsGo (seen++[x]) r
theorem srsGo_at {seen l:List ByteArray}{k:Nat}{x:ByteArray}(h:l[k]? =some x):srsGo seen (l.drop k)=if srF seen x≠0 then srF seen x else srsGo (seen++[x]) (l.drop (k + 1)):=by
 rw [drop_at3 h,srsGo]
def srcsF (how:Int)(l:List ByteArray):Int:=if 0 < l.length∧how≠5 then 3 else if 20 < l.length then 2 else srsGo [] l
def svE (K H:Bool)(F:Int)(B:Bool):Int:=if K=false then 5 else if H=false then 4 else if F≠0 then F else if B=true then 7 else 0
def svF (prev:Option ByteArray)(s:Srv):Int:=svE (L.isKey s.name) (isHow s.how) (srcsF s.how s.srcs) (prev.any (fun p=>leS s.name p))
def svsGo (prev:Option ByteArray):List Srv→Int
 | []=>0
 | s::r=>if svF prev s≠0 then svF prev s else svsGo (some s.name) r
theorem svsGo_at {prev:Option ByteArray}{l:List Srv}{k:Nat}{s:Srv}(h:l[k]? =some s):svsGo prev (l.drop k)=if svF prev s≠0 then svF prev s else svsGo (some s.name) (l.drop (k + 1)):=by
 rw [drop_at3 h,svsGo]
def svsFault (l:List Srv):Int:=if 30 < l.length then 2 else svsGo none l
def rulE (n:Nat)(F:Int)(M:Bool)(m:Nat)(G H:Int):Int:=if n=0 then 3 else if F≠0 then F else if M=false then 1 else if 200 < m then 2 else if G≠0 then G else H
def rulFault (r:Rul):Int:=rulE r.kinds.length (kdsGo none r.kinds) (decide (2≤r.most∧r.most≤2000)) r.weak.length (idsUp r.weak) (svsFault r.surv)
def RiseI (l:List IdV):Prop:=l.Pairwise (fun a b=>cmpId a b < 0)
theorem idsGo_ok:∀ {l:List IdV} {prev:Option IdV},idsGo prev l=0→(∀ x∈l,L.idFault x.k x.t=0)∧(∀ q,prev=some q→∀ x∈l,cmpId q x < 0)∧RiseI l
 | [],_,_=>⟨(fun _ h=>by cases h),(fun _ _ _ h=>by cases h),List.Pairwise.nil⟩
 | x::r,prev,h=>by
  have hx:idGE (L.idFault x.k x.t) (notUp prev x)=0:=by
   by_cases e:idGE (L.idFault x.k x.t) (notUp prev x)=0
   ·exact e
   ·exact absurd (step_no h e) e
  obtain ⟨i1,i2,i3⟩:=idsGo_ok (l:=r) (prev:=some x) (step_go h hx);unfold idGE at hx;have hF:L.idFault x.k x.t=0:=by
   by_cases e:L.idFault x.k x.t=0
   ·exact e
   ·rw [if_pos e] at hx;exact hx
  rw [if_neg (by simpa using hF)] at hx;have hp:∀ q,prev=some q→cmpId q x < 0:=fun q hq=>by
   subst hq;have hb:notUp (some q) x=false:=by
    cases hh:notUp (some q) x with
    | false=>rfl
    | true=>rw [hh,if_pos rfl] at hx;cases hx
   have h1:¬ cmpId x q≤0:=by simpa [notUp] using hb
   have h2:=cmpId_ok.anti q x;omega
  refine ⟨fun y hy=>?_,fun q hq y hy=>?_,List.pairwise_cons.2 ⟨fun y hy=>i2 x rfl y hy,i3⟩⟩
  ·rcases List.mem_cons.1 hy with rfl | hy
   ·exact hF
   ·exact i1 y hy
  ·rcases List.mem_cons.1 hy with rfl | hy
   ·exact hp q hq
   ·exact cmpId_ok.lt (hp q hq) (Int.le_of_lt (i2 x rfl y hy))
end
section
open Go.RowKit
theorem containsInt_any (N:Nat→Prop)(A:Option Addr)(xs:List Int)(c n:Nat)(x:Int)(w:World)(hS:Sl rInt N w A xs)(hn:n≤xs.length)(hl:xs.length≤1000000) :
  Calls Tryz.prog 93 #[.slice A n c,.int .i64 x] w fun e w'=>e=.returned (.bool ((xs.take n).contains x))∧w=w':=by
 cases n with
 | zero=>exact (Tryz.slices_Contains_int_empty A c x w).mono fun e w' ⟨h1,h2⟩=>⟨by rw [h1];simp,h2.symm⟩
 | succ n =>
  obtain ⟨blk,off,rfl,_,_⟩:=hS.int 0 xs[0] (List.getElem?_eq_getElem (by omega));refine (Tryz.slices_Contains_int blk off (n + 1) c xs x w hn (by omega) (fun j hj=>?_)).mono fun e w' ⟨h1,h2⟩=>⟨h1,h2.symm⟩;obtain ⟨_,_,e,_,hc⟩:=hS.int j xs[j] (List.getElem?_eq_getElem hj);cases e;rw [hc];simp [hj]
theorem containsStr_any (N:Nat→Prop)(A:Option Addr)(xs:List ByteArray)(c n:Nat)(x:ByteArray)(w:World)(hS:Sl rStr N w A xs)(hn:n≤xs.length)(hl:xs.length≤1000000) :
  Calls Tryz.prog 149 #[.slice A n c,.string x] w fun e w'=>e=.returned (.bool (Lib.containsS (xs.take n) x))∧w=w':=by
 cases n with
 | zero=>exact (Tryz.slices_Contains_string_empty A c x w).mono fun e w' ⟨h1,h2⟩=>⟨by rw [h1];rfl,h2.symm⟩
 | succ n =>
  obtain ⟨blk,off,rfl,_,_⟩:=hS.str 0 xs[0] (List.getElem?_eq_getElem (by omega));refine (Tryz.slices_Contains_string blk off (n + 1) c xs x w hn (by omega) (fun j hj=>?_)).mono fun e w' ⟨h1,h2⟩=>⟨h1,h2.symm⟩;obtain ⟨_,_,e,_,hc⟩:=hS.str j xs[j] (List.getElem?_eq_getElem hj);cases e;rw [hc];simp [hj]
end
section
open Go Go.RowKit
theorem loadAtI {w:World}{blk o:Nat}{k:Int}{t:ByteArray}(c0:w.cell? ⟨blk,o,none⟩=some (.int .i64 k))(c1:w.cell? ⟨blk,o + 1,none⟩=some (.string t)):(Instr.loadAt 46 (.pointer (some ⟨blk,o,none⟩))).run Tryz.prog w=.ok (.agg #[.int .i64 k,.string t]) w:=by
 go_simp
set_option maxHeartbeats 4000000 in
set_option maxRecDepth 100000 in
theorem upIds_any (N:Nat→Prop)(A:Option Addr)(xs:List IdV)(c:Nat)(w:World)(hS:Sl rId N w A xs)(hl:xs.length≤1000000)(ht:∀ x∈xs,x.t.size≤1000000)(hM:MaxL w) :
  Calls Tryz.prog 144 #[.slice A xs.length c] w fun e w'=>e=.returned (.int .i64 (idsUp xs))∧Below w.heap.size w w':=by
 have HS:=Lib.hid (fun w' (h:Below w.heap.size w w')=>hS.keepB h);have HM:=Lib.hid (fun w' (h:Below w.heap.size w w')=>hM.below h);have HT:=Lib.hid ht;obtain ⟨R,HR⟩:∃ R,Hid (idsUp xs=R):=⟨_,Lib.hid rfl⟩;rw [HR.out];clear hS hM ht;go_enter Tryz.func144,Tryz.ntmps144
 go_wp2_with fail
 go_loopw [8] (fun i wr=>∃ k:Nat,k≤xs.length∧i=.int .i64 k∧Hid (idsGo (ahd xs k) (xs.drop k)=R)∧Below w.heap.size w wr) (fun i _=>xs.length - (intOf i).toNat)
 case atStart=>exact ⟨0,by omega,rfl,HR,Below.refl _ _⟩
 case round =>
  clear HR;obtain ⟨k,hk,rfl,Hr,hb⟩:=hrel;by_cases hlt:k < xs.length
  ·obtain ⟨x,hx⟩:∃ x,xs[k]? =some x:=⟨_,List.getElem?_eq_getElem hlt⟩;obtain ⟨blk,off,rfl,hbl,c0,c1⟩:=(HS.out wr hb).idv k x hx;have Hb1:Hid (Below w.heap.size w (wr.alloc (.cells #[.int .i64 x.k,.string x.t] 46))):=hb.trans ((Below.refl _ _).alloc hb.size _);have lvX:LV _ wr.heap.size _ _:=LV.new wr wr.heap.size #[.int .i64 x.k,.string x.t] 46 rfl;have Hc:=Lib.hid (checkId_any x.k x.t _ (HT.out x (List.mem_of_getElem? hx)) (HM.out _ Hb1.out));obtain ⟨F,HF⟩:∃ F,Hid (L.idFault x.k x.t=F):=⟨_,Lib.hid rfl⟩;obtain ⟨B,HB⟩:∃ B,Hid (notUp (ahd xs k) x=B):=⟨_,Lib.hid rfl⟩;have Hs:Hid ((if idGE F B≠0 then idGE F B else idsGo (some x) (xs.drop (k + 1)))=R):=by show _=_;rw [← Hr.out,idsGo_at hx,HF.out,HB.out]
   rw [HF.out] at Hc;have Hx:=Lib.hid hx;clear Hr HF hx;go_wp2_with fail
   refine (Hc.out).mono ?_;rintro e w2 ⟨rfl,hl2⟩;have Hb2:Hid (Below w.heap.size w w2):=Hb1.out.trans (hl2.mono Hb1.out.size);by_cases hF0:F=0
   ·subst hF0;have Hs2:Hid ((if (if B=true then (7:Int) else 0)≠0 then (if B=true then (7:Int) else 0) else idsGo (some x) (xs.drop (k + 1)))=R):=Hs.out;have lvY:=LV.kb3 lvX hl2 lvX.lt;clear Hs Hc hl2 Hb1 c0 c1 lvX;go_upto_region 7 with fail
    obtain ⟨Y,hY⟩:∃ Y,Y=wr.heap.size:=⟨_,rfl⟩;rw [← hY] at lvY ⊢;clear hY;go_cut [29] (fun s29 wx=>s29=.bool B∧Below w2.heap.size w2 wx)
    case first =>
     by_cases hk0:k=0
     ·subst hk0;obtain rfl:false=B:=HB.out;go_wp2_with fail
      refine wp_region_mix (fun w'=>Below w2.heap.size w2 w') [(true,0),(true,1),(true,2),(true,3),(true,4),(true,5),(true,6),(true,7),(true,8),(false,9),(true,10),(true,11)] (by kernel_rfl) (by kernel_rfl) (fun w' hd=>hd.below _) (fun KK hKK wd hd_wd=>?_);have hC:=hd_wd.below w2.heap.size;clear hd_wd;refine mpR ?_;refine mix_l rfl (fun K hK=>?_) hC;go_wp2_with fail
      refine ⟨hC,?_⟩;refine mpR ?_;refine mix_nil ?_;simp only [Exit.then];refine hKK _ _ ?_;go_wp2_with fail
      go_meet;exact ⟨rfl,hC⟩
     ·obtain ⟨q,rfl⟩:∃ q,k=q + 1:=⟨k - 1,by omega⟩;obtain ⟨y,hp⟩:∃ y,xs[q]? =some y:=⟨_,List.getElem?_eq_getElem (by omega)⟩;have HB2:Hid (decide (idCmp x.k x.t y.k y.t≤0)=B):=by
       show _=_;rw [← HB.out,ahd_succ xs q y hp];rfl
      obtain ⟨_,_,e,hblk2,e0,e1⟩:=(HS.out w2 Hb2.out).idv q y hp;cases e;have Hld:=Lib.hid (fun w' (h:Below w2.heap.size w2 w')=>loadAtI ((h.cell (p:=⟨blk,off + q * 2,none⟩) hblk2).trans e0) ((h.cell (p:=⟨blk,off + q * 2 + 1,none⟩) hblk2).trans e1));clear HB hp e0 e1;have hk1:decide ((0:Int) < ((q + 1:Nat):Int))=true:=by simp
      have hk2:((q + 1:Nat):Int) - 1=(q:Int):=by omega
      go_wp2_with fail
      refine wp_region_mix (fun w'=>Below w2.heap.size w2 w') [(true,0),(true,1),(true,2),(true,3),(true,4),(true,5),(true,6),(true,7),(true,8),(false,9),(true,10),(true,11)] (by kernel_rfl) (by kernel_rfl) (fun w' hd=>hd.below _) (fun KK hKK wd hd_wd=>?_);have hC:=hd_wd.below w2.heap.size;clear hd_wd;refine mpR ?_;refine mix_loadH (.agg #[.int .i64 x.k,.string x.t]) rfl rfl rfl (fun w' h=>loadAtI ((LV.kb3 lvY h lvY.lt).cell 0 _ rfl) ((LV.kb3 lvY h lvY.lt).cell 1 _ rfl)) ?_;refine mpR ?_;refine mix_loadH (.agg #[.int .i64 y.k,.string y.t]) rfl rfl rfl (fun w' h=>Hld.out w' h) ?_;refine mpR ?_;refine mix_l rfl (fun K hK=>?_) hC;have Ho:=Lib.hid (compareIds_any x.k y.k x.t y.t wd);go_wp2_with fail
      refine (Ho.out).mono ?_;rintro e w3 ⟨rfl,hl3⟩;have hC3:=hC.trans (hl3.mono hC.size);clear Ho hl3;generalize idCmp x.k x.t y.k y.t=o at *;go_wp2_with fail
      refine ⟨hC3,?_⟩;refine mpR ?_;refine mix_nil ?_;simp only [Exit.then];refine hKK _ _ ?_;go_wp2_with fail
      go_meet;exact ⟨by rw [← HB2.out],hC3⟩
    case rest =>
     obtain ⟨rfl,hbc⟩:=hcut;have Hb3:Hid (Below w.heap.size w wc):=Hb2.out.trans (hbc.mono Hb2.out.size);clear HB hbc Hb2 lvY;cases B
     ·have Hn:Hid (idsGo (some x) (xs.drop (k + 1))=R):=Hs2.out;go_wp2_with fail
      go_roundw
      case rel=>exact ⟨k + 1,by omega,by go_num,by rw [ahd_succ xs k x Hx.out];exact Hn,Hb3.out⟩
      case measure=>simp [intOf];omega
     ·have Hn:Hid (7=R):=Hs2.out;go_wp2_with fail
      go_ret;exact ⟨ret_i Hn.out,Hb3.out⟩
   ·have hF':(F != 0)=true:=by simpa using hF0
    have Hn:Hid (F=R):=step_is Hs.out (by simp [idGE,hF0]) hF0;go_wp2_with fail
    go_ret;exact ⟨ret_i Hn.out,Hb2.out⟩
  ·go_wp2_with fail
   go_ret;exact ⟨ret_i (by rw [← Hr.out,List.drop_eq_nil_of_le (by omega)];rfl),hb⟩
set_option maxHeartbeats 4000000 in
set_option maxRecDepth 100000 in
theorem checkTouch_any (N:Nat→Prop)(A B:Option Addr)(c d:Nat)(t:Tch)(last:Int)(w:World)(hI:Sl rId N w A t.ids)(hS:Sl rFld N w B t.flds)(hok:TchOk t)(hT:Tabs w)(hM:MaxL w) :
  Calls Tryz.prog 82 #[.agg (tcCs t A c B d),.int .i64 last] w fun e w'=>e=.returned (.int .i64 (tchFault t last))∧Below w.heap.size w w':=by
 have hb0:Below w.heap.size w (w.alloc (.cells (tcCs t A c B d) 58)):=(Below.refl _ _).alloc (Nat.le_refl _) _;have lv0:=LV.new w w.heap.size (tcCs t A c B d) 58 rfl;obtain ⟨R,HR⟩:∃ R,Hid (tchFault t last=R):=⟨_,Lib.hid rfl⟩;rw [HR.out];obtain ⟨D1,HD1⟩:∃ D,Hid (decide (1≤t.no∧t.no≤1000000)=D):=⟨_,Lib.hid rfl⟩;obtain ⟨D2,HD2⟩:∃ D,Hid (decide (0≤t.at'∧t.at'≤4321439)=D):=⟨_,Lib.hid rfl⟩;obtain ⟨O,HO⟩:∃ O,Hid (decide (t.no≤last)=O):=⟨_,Lib.hid rfl⟩;obtain ⟨K,HK⟩:∃ K,Hid (L.isKey t.src=K):=⟨_,Lib.hid rfl⟩;obtain ⟨F,HF⟩:∃ F,Hid (idsUp t.ids=F):=⟨_,Lib.hid rfl⟩;obtain ⟨G,HG⟩:∃ G,Hid (fldsFault t.flds=G):=⟨_,Lib.hid rfl⟩;unfold tchFault at HR;rw [HD1.out,HD2.out,HO.out,HK.out,HF.out,HG.out] at HR;have C1:Hid (∀ w,Calls Tryz.prog 53 #[.int .i64 t.no,.int .i64 1,.int .i64 1000000] w fun e w'=>e=.returned (.bool D1)∧w=w'):=fun w=>HD1.out ▸ within_any t.no 1 1000000 w;have C2:Hid (∀ w,Calls Tryz.prog 53 #[.int .i64 t.at',.int .i64 0,.int .i64 4321439] w fun e w'=>e=.returned (.bool D2)∧w=w'):=fun w=>HD2.out ▸ within_any t.at' 0 4321439 w;have C3:Hid (∀ w,Calls Tryz.prog 113 #[.string t.src] w fun e w'=>e=.returned (.bool K)∧w=w'):=fun w=>HK.out ▸ isKey_any t.src w (by have:=hok.sr;omega);have C4:Hid (∀ w',Below w.heap.size w w'→Calls Tryz.prog 144 #[.slice A t.ids.length c] w' fun e w''=>e=.returned (.int .i64 F)∧Below w'.heap.size w' w''):=fun w' h=>HF.out ▸ upIds_any N A t.ids c w' (hI.keepB h) hok.il hok.it (hM.below h);have C5:Hid (∀ w',Below w.heap.size w w'→Calls Tryz.prog 157 #[.slice B t.flds.length d] w' fun e w''=>e=.returned (.int .i64 G)∧Below w'.heap.size w' w''):=fun w' h=>HG.out ▸ checkFields_any N B t.flds d w' (hS.keepB h) hok.fs (by have:=hok.fl;omega) (Utf8Tabs_below hT h)
 obtain ⟨n,hn⟩:∃ n,n=t.ids.length:=⟨_,rfl⟩;have hnl:n≤1000000:=by rw [hn];exact hok.il
 clear HD1 HD2 HF HG HK hI hS hok hT hM;have Hb0:=Lib.hid hb0;go_enter Tryz.func82,Tryz.ntmps82
 go_upto_region 1 with fail
 generalize w.alloc (.cells (tcCs t A c B d) 58)=w1 at *;obtain ⟨Y,hY⟩:∃ Y,Y=w.heap.size:=⟨_,rfl⟩;rw [← hY] at lv0 ⊢;have c0:w1.cell? ⟨Y,0,none⟩=some (.int .i64 t.no):=lv0.cell 0 _ rfl;have c1:w1.cell? ⟨Y,1,none⟩=some (.int .i64 t.at'):=lv0.cell 1 _ rfl;have c2:w1.cell? ⟨Y,2,none⟩=some (.string t.src):=lv0.cell 2 _ rfl;have c3:w1.cell? ⟨Y,3,none⟩=some (.slice A n c):=by rw [hn];exact lv0.cell 3 _ rfl
 rw [← hn] at C4 HR;clear hb0 hY hn;cases D1
 ·have Hn:Hid (1=R):=by show _=_;rw [← HR.out];simp [tchE]
  go_wp2_with fail
  refine (C1.out _).mono ?_;rintro e _ ⟨rfl,rfl⟩;go_wp2_with fail
  go_ret;exact ⟨ret_i Hn.out,Hb0.out⟩
 ·cases D2
  ·have Hn:Hid (1=R):=by show _=_;rw [← HR.out];simp [tchE]
   go_wp2_with fail
   refine (C1.out _).mono ?_;rintro e _ ⟨rfl,rfl⟩;go_wp2_with fail
   refine (C2.out _).mono ?_;rintro e _ ⟨rfl,rfl⟩;go_wp2_with fail
   go_ret;exact ⟨ret_i Hn.out,Hb0.out⟩
  ·cases O
   ·have hO:decide (t.no≤last)=false:=HO.out;cases K
    ·have Hn:Hid (5=R):=by show _=_;rw [← HR.out];simp [tchE]
     go_wp2_with fail
     refine (C1.out _).mono ?_;rintro e _ ⟨rfl,rfl⟩;go_wp2_with fail
     refine (C2.out _).mono ?_;rintro e _ ⟨rfl,rfl⟩;go_wp2_with fail
     refine (C3.out _).mono ?_;rintro e _ ⟨rfl,rfl⟩;go_wp2_with fail
     go_ret;exact ⟨ret_i Hn.out,Hb0.out⟩
    ·by_cases h0:n=0
     ·have Hn:Hid (3=R):=by show _=_;rw [← HR.out];simp [tchE,h0]
      subst h0;go_wp2_with fail
      refine (C1.out _).mono ?_;rintro e _ ⟨rfl,rfl⟩;go_wp2_with fail
      refine (C2.out _).mono ?_;rintro e _ ⟨rfl,rfl⟩;go_wp2_with fail
      refine (C3.out _).mono ?_;rintro e _ ⟨rfl,rfl⟩;go_wp2_with fail
      go_ret;exact ⟨ret_i Hn.out,Hb0.out⟩
     ·by_cases h10:10 < n
      ·have Hn:Hid (2=R):=by show _=_;rw [← HR.out];simp [tchE,h0,h10]
       go_wp2_with fail
       refine (C1.out _).mono ?_;rintro e _ ⟨rfl,rfl⟩;go_wp2_with fail
       refine (C2.out _).mono ?_;rintro e _ ⟨rfl,rfl⟩;go_wp2_with fail
       refine (C3.out _).mono ?_;rintro e _ ⟨rfl,rfl⟩;go_wp2_with fail
       go_ret;exact ⟨ret_i Hn.out,Hb0.out⟩
      ·have Hn:Hid ((if F≠0 then F else G)=R):=by show _=_;rw [← HR.out];simp [tchE,h0,h10]
       go_wp2_with fail
       refine (C1.out _).mono ?_;rintro e _ ⟨rfl,rfl⟩;go_wp2_with fail
       refine (C2.out _).mono ?_;rintro e _ ⟨rfl,rfl⟩;go_wp2_with fail
       refine (C3.out _).mono ?_;rintro e _ ⟨rfl,rfl⟩;go_wp2_with fail
       refine (C4.out w1 Hb0.out).mono ?_;rintro e w2 ⟨rfl,hl2⟩;have lv2:=LV.kb3 lv0 hl2 lv0.lt;have Hb2:Hid (Below w.heap.size w w2):=Hb0.out.trans (hl2.mono Hb0.out.size);clear c0 c1 c2 c3 lv0 hl2;by_cases hF:F=0
       ·have Hn2:=Lib.hid (step_go Hn.out hF);subst hF;have c4:w2.cell? ⟨Y,4,none⟩=some (.slice B t.flds.length d):=lv2.cell 4 _ rfl;go_wp2_with fail
        refine (C5.out w2 Hb2.out).mono ?_;rintro e w3 ⟨rfl,hl3⟩;go_wp2_with fail
        go_ret;exact ⟨ret_i Hn2.out,Hb2.out.trans (hl3.mono Hb2.out.size)⟩
       ·have Hn2:=Lib.hid (step_no Hn.out hF);have hF':(F != 0)=true:=by simpa using hF
        go_wp2_with fail
        go_ret;exact ⟨ret_i Hn2.out,Hb2.out⟩
   ·have hO:decide (t.no≤last)=true:=HO.out;have Hn:Hid (7=R):=by show _=_;rw [← HR.out];simp [tchE]
    go_wp2_with fail
    refine (C1.out _).mono ?_;rintro e _ ⟨rfl,rfl⟩;go_wp2_with fail
    refine (C2.out _).mono ?_;rintro e _ ⟨rfl,rfl⟩;go_wp2_with fail
    go_ret;exact ⟨ret_i Hn.out,Hb0.out⟩
end
section
open Go Go.RowKit
theorem notUp_R {prev:Option IdV}{x:IdV}:notUp prev x=prev.any (fun p=>decide (0≤cmpId p x)):=by
 unfold notUp;cases prev with
 | none=>rfl
 | some p =>
  simp only [Option.any_some,decide_eq_decide];have h1:=cmpId_ok.anti x p;have h2:=cmpId_ok.anti p x;omega
set_option maxHeartbeats 4000000 in
set_option maxRecDepth 100000 in
theorem refIds_any (N:Nat→Prop)(A:Option Addr)(xs:List IdV)(c:Nat)(w:World)(hS:Sl rId N w A xs)(hl:xs.length≤1000000)(ht:∀ x∈xs,x.t.size≤1000000)(hM:MaxL w) :
  Calls Tryz.prog 73 #[.slice A xs.length c] w fun e w'=>e=.returned (.int .i64 (idsUp xs))∧Below w.heap.size w w':=by
 have HS:=Lib.hid (fun w' (h:Below w.heap.size w w')=>hS.keepB h);have HM:=Lib.hid (fun w' (h:Below w.heap.size w w')=>hM.below h);have HT:=Lib.hid ht;obtain ⟨R,HR⟩:∃ R,Hid (idsUp xs=R):=⟨_,Lib.hid rfl⟩;rw [HR.out];clear hS hM ht;go_enter Tryz.func73,Tryz.ntmps73
 go_wp2_with fail
 go_loopw [8] (fun i wr=>∃ k:Nat,k≤xs.length∧i=.int .i64 k∧Hid (idsGo (ahd xs k) (xs.drop k)=R)∧Below w.heap.size w wr) (fun i _=>xs.length - (intOf i).toNat)
 case atStart=>exact ⟨0,by omega,rfl,HR,Below.refl _ _⟩
 case round =>
  clear HR;obtain ⟨k,hk,rfl,Hr,hb⟩:=hrel;by_cases hlt:k < xs.length
  ·obtain ⟨x,hx⟩:∃ x,xs[k]? =some x:=⟨_,List.getElem?_eq_getElem hlt⟩;obtain ⟨blk,off,rfl,hbl,c0,c1⟩:=(HS.out wr hb).idv k x hx;have Hb1:Hid (Below w.heap.size w (wr.alloc (.cells #[.int .i64 x.k,.string x.t] 46))):=hb.trans ((Below.refl _ _).alloc hb.size _);have lvX:LV _ wr.heap.size _ _:=LV.new wr wr.heap.size #[.int .i64 x.k,.string x.t] 46 rfl;have Hc:=Lib.hid (refId_any x.k x.t _ (HT.out x (List.mem_of_getElem? hx)) (HM.out _ Hb1.out));obtain ⟨F,HF⟩:∃ F,Hid (L.idFault x.k x.t=F):=⟨_,Lib.hid rfl⟩;obtain ⟨B,HB⟩:∃ B,Hid (notUp (ahd xs k) x=B):=⟨_,Lib.hid rfl⟩;have Hs:Hid ((if idGE F B≠0 then idGE F B else idsGo (some x) (xs.drop (k + 1)))=R):=by show _=_;rw [← Hr.out,idsGo_at hx,HF.out,HB.out]
   rw [HF.out] at Hc;have Hx:=Lib.hid hx;clear Hr HF hx;go_wp2_with fail
   refine (Hc.out).mono ?_;rintro e w2 ⟨rfl,hl2⟩;have Hb2:Hid (Below w.heap.size w w2):=Hb1.out.trans (hl2.mono Hb1.out.size);by_cases hF0:F=0
   ·subst hF0;have Hs2:Hid ((if (if B=true then (7:Int) else 0)≠0 then (if B=true then (7:Int) else 0) else idsGo (some x) (xs.drop (k + 1)))=R):=Hs.out;have lvY:=LV.kb3 lvX hl2 lvX.lt;clear Hs Hc hl2 Hb1 c0 c1 lvX;go_upto_region 7 with fail
    obtain ⟨Y,hY⟩:∃ Y,Y=wr.heap.size:=⟨_,rfl⟩;rw [← hY] at lvY ⊢;clear hY;go_cut [29] (fun s29 wx=>s29=.bool B∧Below w2.heap.size w2 wx)
    case first =>
     by_cases hk0:k=0
     ·subst hk0;obtain rfl:false=B:=HB.out;go_wp2_with fail
      refine wp_region_mix (fun w'=>Below w2.heap.size w2 w') [(true,0),(true,1),(true,2),(true,3),(true,4),(true,5),(true,6),(true,7),(true,8),(false,9),(true,10),(true,11)] (by kernel_rfl) (by kernel_rfl) (fun w' hd=>hd.below _) (fun KK hKK wd hd_wd=>?_);have hC:=hd_wd.below w2.heap.size;clear hd_wd;refine mpR ?_;refine mix_l rfl (fun K hK=>?_) hC;go_wp2_with fail
      refine ⟨hC,?_⟩;refine mpR ?_;refine mix_nil ?_;simp only [Exit.then];refine hKK _ _ ?_;go_wp2_with fail
      go_meet;exact ⟨rfl,hC⟩
     ·obtain ⟨q,rfl⟩:∃ q,k=q + 1:=⟨k - 1,by omega⟩;obtain ⟨y,hp⟩:∃ y,xs[q]? =some y:=⟨_,List.getElem?_eq_getElem (by omega)⟩;have HB2:Hid (decide (0≤idCmp y.k y.t x.k x.t)=B):=by
       show _=_;rw [← HB.out,ahd_succ xs q y hp];rw [notUp_R];rfl
      obtain ⟨_,_,e,hblk2,e0,e1⟩:=(HS.out w2 Hb2.out).idv q y hp;cases e;have Hld:=Lib.hid (fun w' (h:Below w2.heap.size w2 w')=>loadAtI ((h.cell (p:=⟨blk,off + q * 2,none⟩) hblk2).trans e0) ((h.cell (p:=⟨blk,off + q * 2 + 1,none⟩) hblk2).trans e1));clear HB hp e0 e1;have hk1:decide ((0:Int) < ((q + 1:Nat):Int))=true:=by simp
      have hk2:((q + 1:Nat):Int) - 1=(q:Int):=by omega
      go_wp2_with fail
      refine wp_region_mix (fun w'=>Below w2.heap.size w2 w') [(true,0),(true,1),(true,2),(true,3),(true,4),(true,5),(true,6),(true,7),(true,8),(false,9),(true,10),(true,11)] (by kernel_rfl) (by kernel_rfl) (fun w' hd=>hd.below _) (fun KK hKK wd hd_wd=>?_);have hC:=hd_wd.below w2.heap.size;clear hd_wd;refine mpR ?_;refine mix_loadH (.agg #[.int .i64 y.k,.string y.t]) rfl rfl rfl (fun w' h=>Hld.out w' h) ?_;refine mpR ?_;refine mix_loadH (.agg #[.int .i64 x.k,.string x.t]) rfl rfl rfl (fun w' h=>loadAtI ((LV.kb3 lvY h lvY.lt).cell 0 _ rfl) ((LV.kb3 lvY h lvY.lt).cell 1 _ rfl)) ?_;refine mpR ?_;refine mix_l rfl (fun K hK=>?_) hC;have Ho:=Lib.hid (order_any y.k x.k y.t x.t wd);go_wp2_with fail
      refine (Ho.out).mono ?_;rintro e w3 ⟨rfl,hl3⟩;have hC3:=hC.trans (hl3.mono hC.size);clear Ho hl3;generalize idCmp y.k y.t x.k x.t=o at *;go_wp2_with fail
      refine ⟨hC3,?_⟩;refine mpR ?_;refine mix_nil ?_;simp only [Exit.then];refine hKK _ _ ?_;go_wp2_with fail
      go_meet;exact ⟨by rw [← HB2.out],hC3⟩
    case rest =>
     obtain ⟨rfl,hbc⟩:=hcut;have Hb3:Hid (Below w.heap.size w wc):=Hb2.out.trans (hbc.mono Hb2.out.size);clear HB hbc Hb2 lvY;cases B
     ·have Hn:Hid (idsGo (some x) (xs.drop (k + 1))=R):=Hs2.out;go_wp2_with fail
      go_roundw
      case rel=>exact ⟨k + 1,by omega,by go_num,by rw [ahd_succ xs k x Hx.out];exact Hn,Hb3.out⟩
      case measure=>simp [intOf];omega
     ·have Hn:Hid (7=R):=Hs2.out;go_wp2_with fail
      go_ret;exact ⟨ret_i Hn.out,Hb3.out⟩
   ·have hF':(F != 0)=true:=by simpa using hF0
    have Hn:Hid (F=R):=step_is Hs.out (by simp [idGE,hF0]) hF0;go_wp2_with fail
    go_ret;exact ⟨ret_i Hn.out,Hb2.out⟩
  ·go_wp2_with fail
   go_ret;exact ⟨ret_i (by rw [← Hr.out,List.drop_eq_nil_of_le (by omega)];rfl),hb⟩
theorem tf1_any (Y:Nat)(t:Tch)(N:Nat→Prop)(A:Option Addr)(c:Nat)(B:Option Addr)(d:Nat)(w:World)(hY:LV w Y (tcCs t A c B d) 58)(hS:Sl rId N w A t.ids)(hok:TchOk t)(hM:MaxL w) :
  Calls Tryz.prog 161 #[.pointer (some ⟨Y,0,none⟩)] w fun e w'=>e=.returned (.int .i64 (idsUp t.ids))∧Below w.heap.size w w':=by
 have c3:w.cell? ⟨Y,3,none⟩=some (.slice A t.ids.length c):=hY.cell 3 _ rfl;have Hc:=Lib.hid (refIds_any N A t.ids c w hS hok.il hok.it hM);clear hS hok hM;go_enter Tryz.func161,Tryz.ntmps161
 go_wp2_with fail
 refine (Hc.out).mono ?_;rintro e w1 ⟨rfl,hl1⟩;go_wp2_with fail
 go_ret;exact ⟨rfl,hl1⟩
theorem tf2_any (Y:Nat)(t:Tch)(N:Nat→Prop)(A:Option Addr)(c:Nat)(B:Option Addr)(d:Nat)(w:World)(hY:LV w Y (tcCs t A c B d) 58)(hS:Sl rFld N w B t.flds)(hok:TchOk t)(hT:Tabs w) :
  Calls Tryz.prog 162 #[.pointer (some ⟨Y,0,none⟩)] w fun e w'=>e=.returned (.int .i64 (fldsFault t.flds))∧Below w.heap.size w w':=by
 have c4:w.cell? ⟨Y,4,none⟩=some (.slice B t.flds.length d):=hY.cell 4 _ rfl;have Hc:=Lib.hid (refFields_any N B t.flds d w hS hok.fs (by have:=hok.fl;omega) hT);clear hS hok hT;go_enter Tryz.func162,Tryz.ntmps162
 go_wp2_with fail
 refine (Hc.out).mono ?_;rintro e w1 ⟨rfl,hl1⟩;go_wp2_with fail
 go_ret;exact ⟨rfl,hl1⟩
set_option maxHeartbeats 4000000 in
set_option maxRecDepth 100000 in
theorem refTouch_any (N:Nat→Prop)(A B:Option Addr)(c d:Nat)(t:Tch)(last:Int)(w:World)(hI:Sl rId N w A t.ids)(hS:Sl rFld N w B t.flds)(hok:TchOk t)(hT:Tabs w)(hM:MaxL w) :
  Calls Tryz.prog 85 #[.agg (tcCs t A c B d),.int .i64 last] w fun e w'=>e=.returned (.int .i64 (tchFault t last))∧Below w.heap.size w w':=by
 have hb0:Below w.heap.size w (w.alloc (.cells (tcCs t A c B d) 58)):=(Below.refl _ _).alloc (Nat.le_refl _) _;have lv0:=LV.new w w.heap.size (tcCs t A c B d) 58 rfl;have HI:=Lib.hid hI;have HS:=Lib.hid hS;have HT:=Lib.hid hT;have HM:=Lib.hid hM;have Hok:=Lib.hid hok;obtain ⟨R,HR⟩:∃ R,Hid (tchFault t last=R):=⟨_,Lib.hid rfl⟩;rw [HR.out];obtain ⟨D1,HD1⟩:∃ D,Hid (decide (1≤t.no∧t.no≤1000000)=D):=⟨_,Lib.hid rfl⟩;obtain ⟨D2,HD2⟩:∃ D,Hid (decide (0≤t.at'∧t.at'≤4321439)=D):=⟨_,Lib.hid rfl⟩;obtain ⟨O,HO⟩:∃ O,Hid (decide (t.no≤last)=O):=⟨_,Lib.hid rfl⟩;obtain ⟨K,HK⟩:∃ K,Hid (L.isKey t.src=K):=⟨_,Lib.hid rfl⟩;unfold tchFault at HR;rw [HD1.out,HD2.out,HO.out,HK.out] at HR;have C1:Hid (∀ w,Calls Tryz.prog 62 #[.int .i64 t.no,.int .i64 1,.int .i64 1000000] w fun e w'=>e=.returned (.bool D1)∧w=w'):=fun w=>HD1.out ▸ in_any t.no 1 1000000 w;have C2:Hid (∀ w,Calls Tryz.prog 62 #[.int .i64 t.at',.int .i64 0,.int .i64 4321439] w fun e w'=>e=.returned (.bool D2)∧w=w'):=fun w=>HD2.out ▸ in_any t.at' 0 4321439 w;have C3:Hid (∀ w,Calls Tryz.prog 61 #[.string t.src] w fun e w'=>e=.returned (.bool K)∧Below w.heap.size w w'):=fun w=>HK.out ▸ Key_any t.src w (by have:=hok.sr;omega);obtain ⟨n,hn⟩:∃ n,n=t.ids.length:=⟨_,rfl⟩;have hnl:n≤1000000:=by rw [hn];exact hok.il
 clear HD1 HD2 HK hI hS hok hT hM;have Hb0:=Lib.hid hb0;have Hn0:=Lib.hid hn;go_enter Tryz.func85,Tryz.ntmps85
 go_upto_region 1 with fail
 generalize w.alloc (.cells (tcCs t A c B d) 58)=w1 at *;obtain ⟨Y,hY⟩:∃ Y,Y=w.heap.size:=⟨_,rfl⟩;rw [← hY] at lv0 ⊢;have c0:w1.cell? ⟨Y,0,none⟩=some (.int .i64 t.no):=lv0.cell 0 _ rfl;have c1:w1.cell? ⟨Y,1,none⟩=some (.int .i64 t.at'):=lv0.cell 1 _ rfl;have c2:w1.cell? ⟨Y,2,none⟩=some (.string t.src):=lv0.cell 2 _ rfl;rw [← hn] at HR;clear hb0 hY hn;cases D1
 ·have Hn:Hid (1=R):=by show _=_;rw [← HR.out];simp [tchE]
  go_wp2_with fail
  refine (C1.out _).mono ?_;rintro e _ ⟨rfl,rfl⟩;go_wp2_with fail
  go_ret;exact ⟨ret_i Hn.out,Hb0.out⟩
 ·cases D2
  ·have Hn:Hid (1=R):=by show _=_;rw [← HR.out];simp [tchE]
   go_wp2_with fail
   refine (C1.out _).mono ?_;rintro e _ ⟨rfl,rfl⟩;go_wp2_with fail
   refine (C2.out _).mono ?_;rintro e _ ⟨rfl,rfl⟩;go_wp2_with fail
   go_ret;exact ⟨ret_i Hn.out,Hb0.out⟩
  ·cases O
   ·have hO:decide (t.no≤last)=false:=HO.out;go_wp2_with fail
    refine (C1.out _).mono ?_;rintro e _ ⟨rfl,rfl⟩;go_wp2_with fail
    refine (C2.out _).mono ?_;rintro e _ ⟨rfl,rfl⟩;go_wp2_with fail
    refine (C3.out w1).mono ?_;rintro e w2 ⟨rfl,hl2⟩;have Hb2:Hid (Below w.heap.size w w2):=Hb0.out.trans (hl2.mono Hb0.out.size);have lv2:=LV.kb3 lv0 hl2 lv0.lt;have c3:w2.cell? ⟨Y,3,none⟩=some (.slice A n c):=by rw [Hn0.out];exact lv2.cell 3 _ rfl
    clear hl2 C1 C2 C3 Hb0 c0 c1 c2 lv0;cases K
    ·have Hn:Hid (5=R):=by show _=_;rw [← HR.out];simp [tchE]
     go_wp2_with fail
     go_ret;exact ⟨ret_i Hn.out,Hb2.out⟩
    ·by_cases h0:n=0
     ·have Hn:Hid (3=R):=by show _=_;rw [← HR.out];simp [tchE,h0]
      subst h0;go_wp2_with fail
      go_ret;exact ⟨ret_i Hn.out,Hb2.out⟩
     ·by_cases h10:10 < n
      ·have Hn:Hid (2=R):=by show _=_;rw [← HR.out];simp [tchE,h0,h10]
       go_wp2_with fail
       go_ret;exact ⟨ret_i Hn.out,Hb2.out⟩
      ·have Hn:Hid (firstErr [idsUp t.ids,fldsFault t.flds]=R):=by
        show _=_;rw [← HR.out];simp only [firstErr,tchE];simp only [Bool.and_self,Bool.true_eq_false,Bool.false_eq_true,if_false,h0,h10];split <;> simp_all
       have hb4:Below w2.heap.size w2 (w2.alloc (.cells #[.func (.func 161) #[] #[.pointer (some ⟨Y,0,none⟩)],.func (.func 162) #[] #[.pointer (some ⟨Y,0,none⟩)]] 153)):=(Below.refl _ _).alloc (Nat.le_refl _) _;have Hb4:Hid (Below w.heap.size w (w2.alloc (.cells #[.func (.func 161) #[] #[.pointer (some ⟨Y,0,none⟩)],.func (.func 162) #[] #[.pointer (some ⟨Y,0,none⟩)]] 153))):=Hb2.out.alloc Hb2.out.size _;have lvX:=LV.new w2 w2.heap.size #[.func (.func 161) #[] #[.pointer (some ⟨Y,0,none⟩)],.func (.func 162) #[] #[.pointer (some ⟨Y,0,none⟩)]] 153 rfl;have lvY:=LV.kb3 lv2 hb4 lv2.lt;clear hb4;have Hf:=Lib.hid (first_any w2.heap.size 2 [⟨161,#[.pointer (some ⟨Y,0,none⟩)],idsUp t.ids⟩,⟨162,#[.pointer (some ⟨Y,0,none⟩)],fldsFault t.flds⟩] _ rfl lvX (by simp)
        (fun c hc=>by
         rcases List.mem_cons.1 hc with rfl | hc
         ·exact enters_of Tryz.func161 (by kernel_rfl) rfl
         ·rw [List.mem_singleton.1 hc];exact enters_of Tryz.func162 (by kernel_rfl) rfl)
        (fun c' hc w' hw=>by
         have hB:Below w.heap.size w w':=Hb4.out.trans (hw.mono Hb4.out.size);have lvw:=LV.kb3 lvY hw lvY.lt;rcases List.mem_cons.1 hc with rfl | hc
         ·exact tf1_any Y t N A c B d w' lvw (HI.out.keepB hB) Hok.out (HM.out.below hB)
         ·rw [List.mem_singleton.1 hc];exact tf2_any Y t N A c B d w' lvw (HS.out.keepB hB) Hok.out (Utf8Tabs_below HT.out hB)))
       go_wp2_with fail
       refine (Hf.out).mono ?_;rintro e w5 ⟨rfl,hl5⟩;go_wp2_with fail
       go_ret;exact ⟨ret_i Hn.out,Hb4.out.trans (hl5.mono Hb4.out.size)⟩
   ·have hO:decide (t.no≤last)=true:=HO.out;have Hn:Hid (7=R):=by show _=_;rw [← HR.out];simp [tchE]
    go_wp2_with fail
    refine (C1.out _).mono ?_;rintro e _ ⟨rfl,rfl⟩;go_wp2_with fail
    refine (C2.out _).mono ?_;rintro e _ ⟨rfl,rfl⟩;go_wp2_with fail
    go_ret;exact ⟨ret_i Hn.out,Hb0.out⟩
set_option maxHeartbeats 4000000 in
set_option maxRecDepth 100000 in
theorem refTouches_any (N:Nat→Prop)(A:Option Addr)(xs:List Tch)(c:Nat)(w:World)(hS:Sl rTch N w A xs)(hok:TchsOk xs)(hT:Tabs w)(hM:MaxL w) :
  Calls Tryz.prog 28 #[.slice A xs.length c] w fun e w'=>e=.returned (.int .i64 (tchsFault xs))∧Below w.heap.size w w':=by
 have HS:=Lib.hid (fun w' (h:Below w.heap.size w w')=>hS.keepB h);have HTM:=Lib.hid (fun w' (h:Below w.heap.size w w')=>(⟨Utf8Tabs_below hT h,hM.below h⟩:Tabs w'∧MaxL w'));have Hok:=Lib.hid hok.ok;have hln:=hok.len;clear hS hok hT hM;obtain ⟨R,HR⟩:∃ R,Hid (tchsFault xs=R):=⟨_,Lib.hid rfl⟩;rw [HR.out];by_cases h20:2000 < xs.length
 ·go_enter Tryz.func28,Tryz.ntmps28
  go_wp2_with fail
  go_ret;exact ⟨ret_i (by rw [← HR.out,tchsFault,if_pos h20]),Below.refl _ _⟩
 ·have HR2:Hid (tchsGo 0 xs=R):=by show _=_;rw [← HR.out,tchsFault,if_neg h20]
  clear HR;go_enter Tryz.func28,Tryz.ntmps28
  go_wp2_with fail
  go_loopw [3,12] (fun s i wr=>∃ (k:Nat) (last:Int),k≤xs.length∧i=.int .i64 k∧s=.int .i64 last∧Hid (tchsGo last (xs.drop k)=R)∧Below w.heap.size w wr) (fun _ i _=>xs.length - (intOf i).toNat)
  case atStart=>exact ⟨0,0,Nat.zero_le _,rfl,rfl,HR2.out,Below.refl _ _⟩
  case round =>
   clear HR2;obtain ⟨k,last,hk,rfl,rfl,Hr,hbl⟩:=hrel;by_cases hlt:k < xs.length
   ·obtain ⟨t,ht⟩:∃ t,xs[k]? =some t:=⟨_,List.getElem?_eq_getElem hlt⟩;obtain ⟨blk,off,Ai,ci,Af,cf,rfl,hblk,d0,d1,d2,d3,d4,hi,hf⟩:=(HS.out wr hbl).tch k t ht;have hb0:Below wr.heap.size wr (wr.alloc (.cells (tcCs t Ai ci Af cf) 58)):=(Below.refl _ _).alloc (Nat.le_refl _) _;have Hb1:Hid (Below w.heap.size w (wr.alloc (.cells (tcCs t Ai ci Af cf) 58))):=hbl.alloc hbl.size _;have HC:=Lib.hid (refTouch_any N Ai Af ci cf t last _ (hi.keepB hb0) (hf.keepB hb0) (Hok.out t (List.mem_of_getElem? ht)) (HTM.out _ Hb1.out).1 (HTM.out _ Hb1.out).2);obtain ⟨F,HF⟩:∃ F,Hid (tchFault t last=F):=⟨_,Lib.hid rfl⟩;have Hs:Hid ((if F≠0 then F else tchsGo t.no (xs.drop (k + 1)))=R):=by show _=_;rw [← Hr.out,tchsGo_at ht,HF.out]
    rw [HF.out] at HC;have lvY:LV _ wr.heap.size _ _:=LV.new wr wr.heap.size (tcCs t Ai ci Af cf) 58 rfl;clear hi hf hb0 Hr HF;go_wp2_with fail
    refine (HC.out).mono ?_;rintro e w2 ⟨rfl,hl2⟩;have lv2:=LV.kb3 lvY hl2 lvY.lt;have Hb2:Hid (Below w.heap.size w w2):=Hb1.out.trans (hl2.mono Hb1.out.size);clear HC lvY hl2 d0 d1 d2 d3 d4;by_cases hF:F=0
    ·have Hn:=Lib.hid (step_go Hs.out hF);subst hF;have c0:=lv2.cell 0 _ rfl;go_wp2_with fail
     go_roundw
     case rel=>exact ⟨k + 1,t.no,by omega,by go_num,rfl,Hn.out,Hb2.out⟩
     case measure=>simp [intOf];omega
    ·have Hn:=Lib.hid (step_no Hs.out hF);have hF':(F != 0)=true:=by simpa using hF
     go_wp2_with fail
     go_ret;exact ⟨ret_i Hn.out,Hb2.out⟩
   ·go_wp2_with fail
    go_ret;exact ⟨ret_i (by rw [← Hr.out,List.drop_eq_nil_of_le (by omega)];rfl),hbl⟩
end
section
open Go Go.RowKit
abbrev hasB (seen:List ByteArray)(x:ByteArray):Bool:=seen.any (fun y=>y.toList==x.toList)
set_option maxHeartbeats 4000000 in
set_option maxRecDepth 100000 in
theorem checkSources_any (N:Nat→Prop)(A:Option Addr)(nm:ByteArray)(how:Int)(xs:List ByteArray)(c:Nat)(w:World)(hS:Sl rStr N w A xs)(hc:xs.length≤c)(hl:xs.length≤1000000)(ht:∀ x∈xs,x.size≤1000000) :
  Calls Tryz.prog 220 #[.agg #[.string nm,.int .i64 how,.slice A xs.length c]] w fun e w'=>e=.returned (.int .i64 (srcsF how xs))∧Below w.heap.size w w':=by
 have hb0:Below w.heap.size w (w.alloc (.cells #[.string nm,.int .i64 how,.slice A xs.length c] 124)):=(Below.refl _ _).alloc (Nat.le_refl _) _;have Hb0:=Lib.hid hb0;have lv0:=LV.new w w.heap.size #[.string nm,.int .i64 how,.slice A xs.length c] 124 rfl;have HS:=Lib.hid (hS.keepB hb0);have HT:=Lib.hid ht;obtain ⟨R,HR⟩:∃ R,Hid (srcsF how xs=R):=⟨_,Lib.hid rfl⟩;rw [HR.out];clear hS ht hb0;go_enter Tryz.func220,Tryz.ntmps220
 go_upto_region 1 with fail
 generalize w.alloc (.cells #[.string nm,.int .i64 how,.slice A xs.length c] 124)=w1 at *;obtain ⟨Y,hY⟩:∃ Y,Y=w.heap.size:=⟨_,rfl⟩;rw [← hY] at lv0 ⊢;clear hY;obtain ⟨n,hn⟩:∃ n,xs.length=n:=⟨_,rfl⟩;have Hn:=Lib.hid hn;rw [hn] at lv0 hc hl;have c1:w1.cell? ⟨Y,1,none⟩=some (.int .i64 how):=lv0.cell 1 _ rfl;have c2:w1.cell? ⟨Y,2,none⟩=some (.slice A n c):=lv0.cell 2 _ rfl;have HR2:Hid ((if 0 < n∧how≠5 then 3 else if 20 < n then 2 else srsGo [] xs)=R):=by show _=_;rw [← HR.out,srcsF,hn]
 clear HR hn lv0;by_cases h1:0 < n∧how≠5
 ·have Hr:Hid (3=R):=by show _=_;rw [← HR2.out,if_pos h1]
  obtain ⟨h2,h3⟩:=h1;have h3':(how != 5)=true:=by simpa using h3
  have h2':decide ((0:Int) < (n:Int))=true:=by simpa using h2
  clear HR2 h3;go_wp2_with fail
  go_ret;exact ⟨ret_i Hr.out,Hb0.out⟩
 ·have HR3:Hid ((if 20 < n then 2 else srsGo [] xs)=R):=by show _=_;rw [← HR2.out,if_neg h1]
  clear HR2;by_cases h0:n=0
  ·have Hr:Hid (0=R):=by
    show _=_;have hx0:xs=[]:=List.length_eq_zero_iff.1 (by rw [Hn.out];exact h0);rw [← HR3.out,if_neg (by omega),hx0];rfl
   subst h0;clear HR3 h1;go_wp2_with fail
   go_loopw [25] (fun i wr=>i=.int .i64 0∧w1=wr) (fun _ _=>0)
   case atStart=>exact ⟨rfl,rfl⟩
   case round =>
    obtain ⟨rfl,rfl⟩:=hrel;go_wp2_with fail
    go_ret;exact ⟨ret_i Hr.out,Hb0.out⟩
  have h2':decide ((0:Int) < (n:Int))=true:=by simp;omega
  have h3:how=5:=Decidable.byContradiction fun h=>h1 ⟨by omega,h⟩;have h3':(how != 5)=false:=by simp [h3]
  clear h3 h1;by_cases h20:20 < n
  ·have Hr:Hid (2=R):=by show _=_;rw [← HR3.out,if_pos h20]
   clear HR3;go_wp2_with fail
   go_ret;exact ⟨ret_i Hr.out,Hb0.out⟩
  ·have Hr0:Hid (srsGo [] xs=R):=by show _=_;rw [← HR3.out,if_neg h20]
   clear HR3;go_wp2_with fail
   clear c1;go_loopw [25] (fun i wr=>∃ k:Nat,k≤n∧i=.int .i64 k∧Hid (srsGo (xs.take k) (xs.drop k)=R)∧w1=wr) (fun i _=>n - (intOf i).toNat)
   case atStart=>exact ⟨0,Nat.zero_le _,rfl,Hr0,rfl⟩
   case round =>
    clear Hr0;obtain ⟨k,hk,rfl,Hr,rfl⟩:=hrel;by_cases hlt:k < n
    ·obtain ⟨x,hx⟩:∃ x,xs[k]? =some x:=⟨_,List.getElem?_eq_getElem (by have:=Hn.out;omega)⟩;have hxs:x.size≤1000000:=HT.out x (List.mem_of_getElem? hx);obtain ⟨blk,off,rfl,hblk,d0⟩:=HS.out.str k x hx;have Hs:Hid ((if srF (xs.take k) x≠0 then srF (xs.take k) x else srsGo (xs.take k++[x]) (xs.drop (k + 1)))=R):=by show _=_;rw [← Hr.out,srsGo_at hx]
     obtain ⟨K,HK⟩:∃ K,Hid (L.isKey x=K):=⟨_,Lib.hid rfl⟩;have HC:Hid (∀ w,Calls Tryz.prog 113 #[.string x] w fun e w'=>e=.returned (.bool K)∧w=w'):=fun w=>HK.out ▸ isKey_any x w (by omega);have Hx:=Lib.hid hx;clear Hr hx;cases K
     ·have Hn1:Hid (5=R):=step_is Hs.out (by rw [srF,if_pos HK.out]) (by decide);go_wp2_with fail
      refine (HC.out _).mono ?_;rintro e _ ⟨rfl,rfl⟩;go_wp2_with fail
      go_ret;exact ⟨ret_i Hn1.out,Hb0.out⟩
     ·have Hs2:Hid ((if hasB (xs.take k) x=true then 6 else srsGo (xs.take k++[x]) (xs.drop (k + 1)))=R):=by
       show _=_;have e:srF (xs.take k) x=if hasB (xs.take k) x=true then 6 else 0:=by rw [srF,HK.out,if_neg (by decide)]
       rw [← Hs.out,e];cases hasB (xs.take k) x <;> rfl
      clear Hs HK;go_wp2_with fail
      refine (HC.out _).mono ?_;rintro e _ ⟨rfl,rfl⟩;go_wp2_with fail
      go_loopw [38] (fun j wr=>∃ p:Nat,p≤k∧j=.int .i64 p∧Hid (hasB (xs.take p) x=false)∧w1=wr) (fun j _=>k - (intOf j).toNat)
      case atStart=>exact ⟨0,Nat.zero_le _,rfl,(by show _=_;simp [hasB]),rfl⟩
      case round =>
       obtain ⟨p,hp,rfl,Hp,rfl⟩:=hrel;by_cases hlt2:p < k
       ·obtain ⟨y,hy⟩:∃ y,xs[p]? =some y:=⟨_,List.getElem?_eq_getElem (by have:=Hn.out;omega)⟩;obtain ⟨_,_,e,_,e0⟩:=HS.out.str p y hy;cases e;have Hy:=Lib.hid hy;clear hy;cases hyx:(y.toList==x.toList)
        ·have Hp2:Hid (hasB (xs.take (p + 1)) x=false):=by
          show _=_;have h:=Hp.out;unfold hasB at h ⊢;rw [take_snoc Hy.out,List.any_append,h];simp [hyx]
         go_wp2_with fail
         go_roundw
         case rel=>exact ⟨p + 1,by omega,by go_num,Hp2,by first | rfl | trivial⟩
         case measure=>simp [intOf];omega
        ·have Hn1:Hid (6=R):=by
          show _=_;rw [← Hs2.out,if_pos];rw [hasB,List.any_eq_true];exact ⟨y,List.mem_of_getElem? (i:=p) (by rw [List.getElem?_take_of_lt hlt2];exact Hy.out),hyx⟩
         go_wp2_with fail
         go_ret;exact ⟨ret_i Hn1.out,Hb0.out⟩
       ·obtain rfl:p=k:=by omega
        have Hn1:Hid (srsGo (xs.take p++[x]) (xs.drop (p + 1))=R):=by show _=_;rw [← Hs2.out,if_neg (by rw [Hp.out];decide)]
        go_wp2_with fail
        go_roundw
        case rel=>exact ⟨p + 1,by omega,by go_num,by rw [take_snoc Hx.out];exact Hn1,by first | rfl | trivial⟩
        case measure=>simp [intOf];omega
    ·have Hn1:Hid (0=R):=by show _=_;rw [← Hr.out,List.drop_eq_nil_of_le (by have:=Hn.out;omega)];rfl
     go_wp2_with fail
     go_ret;exact ⟨ret_i Hn1.out,Hb0.out⟩
set_option maxHeartbeats 4000000 in
set_option maxRecDepth 100000 in
theorem checkSurvive_any (N:Nat→Prop)(A:Option Addr)(r:Rul)(c:Nat)(w:World)(hS:Sl rSrv N w A r.surv)(hok:RulOk r) :
  Calls Tryz.prog 145 #[.slice A r.surv.length c] w fun e w'=>e=.returned (.int .i64 (svsFault r.surv))∧Below w.heap.size w w':=by
 obtain ⟨xs,hxs⟩:∃ xs,r.surv=xs:=⟨_,rfl⟩;have hln:=hok.sl;have hn1:=hok.sn;have hn2:=hok.ss;have hn3:=hok.st;rw [hxs] at hS hln hn1 hn2 hn3 ⊢;have HS:=Lib.hid hS;have H1:=Lib.hid hn1;have H2:=Lib.hid hn2;have H3:=Lib.hid hn3;clear hS hok hn1 hn2 hn3 hxs;obtain ⟨R,HR⟩:∃ R,Hid (svsFault xs=R):=⟨_,Lib.hid rfl⟩;rw [HR.out];by_cases h30:30 < xs.length
 ·go_enter Tryz.func145,Tryz.ntmps145
  go_wp2_with fail
  go_ret;exact ⟨ret_i (by rw [← HR.out,svsFault,if_pos h30]),Below.refl _ _⟩
 ·have HR2:Hid (svsGo none xs=R):=by show _=_;rw [← HR.out,svsFault,if_neg h30]
  clear HR;go_enter Tryz.func145,Tryz.ntmps145
  go_wp2_with fail
  go_loopw [11] (fun i wr=>∃ k:Nat,k≤xs.length∧i=.int .i64 k∧Hid (svsGo ((ahd xs k).map Srv.name) (xs.drop k)=R)∧Below w.heap.size w wr) (fun i _=>xs.length - (intOf i).toNat)
  case atStart=>exact ⟨0,Nat.zero_le _,rfl,HR2,Below.refl _ _⟩
  case round =>
   clear HR2;obtain ⟨k,hk,rfl,Hr,hbl⟩:=hrel;by_cases hlt:k < xs.length
   ·obtain ⟨p,hf⟩:∃ p,xs[k]? =some p:=⟨_,List.getElem?_eq_getElem hlt⟩;have hSr:=HS.out.keepB hbl;have hp1:p.name.size≤1000000:=H1.out p (List.mem_of_getElem? hf);obtain ⟨K,HK⟩:∃ K,Hid (L.isKey p.name=K):=⟨_,Lib.hid rfl⟩;obtain ⟨H,HH⟩:∃ H,Hid (isHow p.how=H):=⟨_,Lib.hid rfl⟩;obtain ⟨F,HF⟩:∃ F,Hid (srcsF p.how p.srcs=F):=⟨_,Lib.hid rfl⟩;obtain ⟨B,HB⟩:∃ B,Hid (((ahd xs k).map Srv.name).any (fun q=>leS p.name q)=B):=⟨_,Lib.hid rfl⟩;have Hstep:Hid ((if svE K H F B≠0 then svE K H F B else svsGo (some p.name) (xs.drop (k + 1)))=R):=by show _=_;rw [← Hr.out,svsGo_at hf,svF,HK.out,HH.out,HF.out,HB.out]
    have Hf:=Lib.hid hf;obtain ⟨blk,off,As,cs,rfl,hblk,d0,d1,d2,hcs,hst⟩:=hSr.srv k p hf;clear Hr hf;have hb0:Below wr.heap.size wr (wr.alloc (.cells (svCs p As cs) 124)):=(Below.refl _ _).alloc (Nat.le_refl _) _;have Hb1:Hid (Below w.heap.size w (wr.alloc (.cells (svCs p As cs) 124))):=hbl.alloc hbl.size _;have HKc:Hid (∀ w,Calls Tryz.prog 113 #[.string p.name] w fun e w'=>e=.returned (.bool K)∧w=w'):=fun w=>HK.out ▸ isKey_any p.name w (by omega);have HHc:Hid (∀ w,Calls Tryz.prog 53 #[.int .i64 p.how,.int .i64 1,.int .i64 7] w fun e w'=>e=.returned (.bool H)∧w=w'):=fun w=>HH.out ▸ within_any p.how 1 7 w;have lvY:LV _ wr.heap.size _ _:=LV.new wr wr.heap.size (svCs p As cs) 124 rfl;have Hst:=Lib.hid (Sl.keepB hst hb0);have HSr:=Lib.hid (Sl.keepB hSr hb0);have Hcs:=Lib.hid hcs;clear hSr hst hb0 hcs;go_upto_region 6 with fail
    clear d0 d1 d2;generalize wr.alloc (.cells (svCs p As cs) 124)=w1 at *;obtain ⟨Y,hY⟩:∃ Y,Y=wr.heap.size:=⟨_,rfl⟩;rw [← hY] at lvY ⊢;have c0:=lvY.all;clear hY hbl;cases K
    ·have Hn:Hid (5=R):=step_is Hstep.out rfl (by decide);go_wp2_with fail
     refine (HKc.out _).mono ?_;rintro e _ ⟨rfl,rfl⟩;go_wp2_with fail
     go_ret;exact ⟨ret_i Hn.out,Hb1.out⟩
    ·go_wp2_with fail
     refine (HKc.out _).mono ?_;rintro e _ ⟨rfl,rfl⟩;cases H
     ·have Hn:Hid (4=R):=step_is Hstep.out rfl (by decide);go_wp2_with fail
      refine (HHc.out _).mono ?_;rintro e _ ⟨rfl,rfl⟩;go_wp2_with fail
      go_ret;exact ⟨ret_i Hn.out,Hb1.out⟩
     ·have Ht:=Lib.hid (checkSources_any N As p.name p.how p.srcs cs w1 Hst.out Hcs.out (H2.out p (List.mem_of_getElem? Hf.out)) (H3.out p (List.mem_of_getElem? Hf.out)));rw [HF.out] at Ht;clear HF;go_wp2_with fail
      refine (HHc.out _).mono ?_;rintro e _ ⟨rfl,rfl⟩;go_wp2_with fail
      refine (Ht.out).mono ?_;rintro e w2 ⟨rfl,hl2⟩;have Hb2:Hid (Below w.heap.size w w2):=Hb1.out.trans (hl2.mono Hb1.out.size);have HSr2:=Lib.hid (Sl.keepB HSr.out hl2);have lv2:=LV.kb3 lvY hl2 lvY.lt;clear Ht hl2 c0 lvY HSr Hb1 HKc HHc;by_cases hF:F=0
      ·subst hF;have Hs2:Hid ((if (if B=true then (7:Int) else 0)≠0 then (if B=true then (7:Int) else 0) else svsGo (some p.name) (xs.drop (k + 1)))=R):=Hstep.out;have c0:=lv2.all;go_upto_region 13 with fail
       go_cut [43] (fun s26 wx=>s26=.bool B∧Below w2.heap.size w2 wx)
       case first =>
        by_cases hk0:k=0
        ·subst hk0;obtain rfl:false=B:=HB.out;go_wp2_with fail
         go_quiet (fail)
         first | go_meet | (go_wp2_with fail;go_meet) | trace_state
         exact ⟨rfl,below_drewN _ _ _⟩
        ·obtain ⟨q,rfl⟩:∃ q,k=q + 1:=⟨k - 1,by omega⟩;obtain ⟨p',hp⟩:∃ p',xs[q]? =some p':=⟨_,List.getElem?_eq_getElem (by omega)⟩;have HB2:Hid (leS p.name p'.name=B):=by
          show _=_;rw [← HB.out,ahd_succ xs q p' hp];simp
         obtain ⟨_,_,_,_,e,_,e0,_,_,_,_⟩:=HSr2.out.srv q p' hp;cases e;clear HB hp;go_wp2_with fail
         go_quiet (fail)
         first | go_meet | (go_wp2_with fail;go_meet) | trace_state
         exact ⟨by rw [← HB2.out];rfl,below_drewN _ _ _⟩
       case rest =>
        obtain ⟨rfl,hbc⟩:=hcut;have Hb3:Hid (Below w.heap.size w wc):=Hb2.out.trans (hbc.mono Hb2.out.size);clear c0 hbc Hstep HB lv2;cases B
        ·have Hn:Hid (svsGo (some p.name) (xs.drop (k + 1))=R):=Hs2.out;go_wp2_with fail
         go_roundw
         case rel=>exact ⟨k + 1,by omega,by go_num,by show _=_;rw [ahd_succ xs k p Hf.out];exact Hn.out,Hb3.out⟩
         case measure=>simp [intOf];omega
        ·have Hn:Hid (7=R):=Hs2.out;go_wp2_with fail
         go_ret;exact ⟨ret_i Hn.out,Hb3.out⟩
      ·have Hn:=Lib.hid (step_is Hstep.out (v:=F) (by rw [svE,if_neg (by decide),if_neg (by decide),if_pos hF]) hF);have hF':(F != 0)=true:=by simpa using hF
       clear HB;go_wp2_with fail
       go_ret;exact ⟨ret_i Hn.out,Hb2.out⟩
   ·go_wp2_with fail
    go_ret;exact ⟨ret_i (by rw [← Hr.out,List.drop_eq_nil_of_le (by omega)];rfl),hbl⟩
set_option maxHeartbeats 4000000 in
set_option maxRecDepth 100000 in
theorem checkJoin_any (N:Nat→Prop)(r:Rul)(K W S:Option Addr)(ck cw cs:Nat)(w:World)(hR:RulIn N w r K W S)(hok:RulOk r)(hM:MaxL w) :
  Calls Tryz.prog 71 #[.agg (ruCs r K ck W cw S cs)] w fun e w'=>e=.returned (.int .i64 (rulFault r))∧Below w.heap.size w w':=by
 have hb0:Below w.heap.size w (w.alloc (.cells (ruCs r K ck W cw S cs) 29)):=(Below.refl _ _).alloc (Nat.le_refl _) _;have lv0:=LV.new w w.heap.size (ruCs r K ck W cw S cs) 29 rfl;have Hk:=Lib.hid (hR.kd.keepB hb0);have HC1:=Lib.hid (fun w' (h:Below w.heap.size w w')=>upIds_any N W r.weak cw w' (hR.wk.keepB h) hok.wl hok.wt (hM.below h));have HC2:=Lib.hid (fun w' (h:Below w.heap.size w w')=>checkSurvive_any N S r cs w' (hR.sv.keepB h) hok);have hkl:=hok.kl;have hwl:=hok.wl;have hsl:=hok.sl;obtain ⟨R,HR⟩:∃ R,Hid (rulFault r=R):=⟨_,Lib.hid rfl⟩;rw [HR.out];obtain ⟨xs,most,weak,surv⟩:=r;dsimp only at *
 obtain ⟨F,HF⟩:∃ F,Hid (kdsGo none xs=F):=⟨_,Lib.hid rfl⟩;obtain ⟨M,HM⟩:∃ M,Hid (decide (2≤most∧most≤2000)=M):=⟨_,Lib.hid rfl⟩;obtain ⟨G,HG⟩:∃ G,Hid (idsUp weak=G):=⟨_,Lib.hid rfl⟩;obtain ⟨H,HH⟩:∃ H,Hid (svsFault surv=H):=⟨_,Lib.hid rfl⟩;have HR2:Hid (rulE xs.length F M weak.length G H=R):=by show _=_;rw [← HR.out,rulFault,HF.out,HM.out,HG.out,HH.out]
 rw [HG.out] at HC1;rw [HH.out] at HC2;have HMc:Hid (∀ w,Calls Tryz.prog 53 #[.int .i64 most,.int .i64 2,.int .i64 2000] w fun e w'=>e=.returned (.bool M)∧w=w'):=fun w=>HM.out ▸ within_any most 2 2000 w;have Hb0:=Lib.hid hb0;clear HR HG HH HM hb0 hR hok hM;go_enter Tryz.func71,Tryz.ntmps71
 go_upto_region 1 with fail
 generalize w.alloc (.cells (ruCs ⟨xs,most,weak,surv⟩ K ck W cw S cs) 29)=w1 at *;obtain ⟨Y,hY⟩:∃ Y,Y=w.heap.size:=⟨_,rfl⟩;rw [← hY] at lv0 ⊢;clear hY;obtain ⟨n,hn⟩:∃ n,n=xs.length:=⟨_,rfl⟩;obtain ⟨nw,hnw⟩:∃ n,n=weak.length:=⟨_,rfl⟩;obtain ⟨ns,hns⟩:∃ n,n=surv.length:=⟨_,rfl⟩;have c0:w1.cell? ⟨Y,0,none⟩=some (.slice K n ck):=by rw [hn];exact lv0.cell 0 _ rfl
 have c1:w1.cell? ⟨Y,1,none⟩=some (.int .i64 most):=lv0.cell 1 _ rfl;have c2:w1.cell? ⟨Y,2,none⟩=some (.slice W nw cw):=by rw [hnw];exact lv0.cell 2 _ rfl
 have lv3:∀ w',Below w1.heap.size w1 w'→w'.cell? ⟨Y,3,none⟩=some (.slice S ns cs):=fun w' h=>by rw [hns];exact (LV.kb3 lv0 h lv0.lt).cell 3 _ rfl
 have Hl3:=Lib.hid lv3;rw [← hn,← hnw] at HR2;rw [← hnw] at HC1;rw [← hns] at HC2;have Hn:=Lib.hid hn;rw [← hn] at hkl;rw [← hnw] at hwl;rw [← hns] at hsl;clear hn hnw hns lv0 lv3;by_cases h0:n=0
 ·have Hr:Hid (3=R):=by show _=_;rw [← HR2.out,rulE,if_pos h0]
  subst h0;go_wp2_with fail
  go_ret;exact ⟨ret_i Hr.out,Hb0.out⟩
 have HR3:Hid ((if F≠0 then F else if M=false then 1 else if 200 < nw then 2 else if G≠0 then G else H)=R):=by show _=_;rw [← HR2.out,rulE,if_neg h0]
 clear HR2;go_wp2_with fail
 have e9:((n:Int)==0)=false:=by simpa using h0
 rw [e9];clear e9;go_loopw [13] (fun i wr=>∃ k:Nat,k≤n∧i=.int .i64 k∧Hid (kdsGo (ahd xs k) (xs.drop k)=F)∧w1=wr) (fun i _=>n - (intOf i).toNat)
 case atStart=>exact ⟨0,Nat.zero_le _,rfl,HF,rfl⟩
 case round =>
  obtain ⟨k,hk,rfl,Hr,rfl⟩:=hrel;clear HF;by_cases hlt:k < n
  ·obtain ⟨x,hx⟩:∃ x,xs[k]? =some x:=⟨_,List.getElem?_eq_getElem (by have:=Hn.out;omega)⟩;obtain ⟨blk,off,rfl,hblk,d0⟩:=Hk.out.int k x hx;obtain ⟨D,HD⟩:∃ D,Hid (isKd x=D):=⟨_,Lib.hid rfl⟩;have Hs:Hid ((if kdF (ahd xs k) x≠0 then kdF (ahd xs k) x else kdsGo (some x) (xs.drop (k + 1)))=F):=by show _=_;rw [← Hr.out,kdsGo_at hx]
   have HDc:Hid (∀ w,Calls Tryz.prog 53 #[.int .i64 x,.int .i64 1,.int .i64 4] w fun e w'=>e=.returned (.bool D)∧w=w'):=fun w=>HD.out ▸ within_any x 1 4 w;have Hx:=Lib.hid hx;clear Hr hx;cases D
   ·have Hf:Hid (4=F):=step_is Hs.out (by rw [kdF,if_pos HD.out]) (by decide);have Hr:Hid (4=R):=by show _=_;rw [← HR3.out,← Hf.out];rfl
    go_wp2_with fail
    refine (HDc.out _).mono ?_;rintro e _ ⟨rfl,rfl⟩;go_wp2_with fail
    go_ret;exact ⟨ret_i Hr.out,Hb0.out⟩
   ·go_wp2_with fail
    refine (HDc.out _).mono ?_;rintro e _ ⟨rfl,rfl⟩;by_cases hk0:k=0
    ·subst hk0;have Hn1:Hid (kdsGo (some x) (xs.drop (0 + 1))=F):=step_go Hs.out (by rw [kdF,HD.out];rfl);go_wp2_with fail
     go_roundw
     case rel=>exact ⟨1,by omega,by go_num,by show _=_;rw [show ahd xs 1=some x from ahd_succ xs 0 x Hx.out];exact Hn1.out,by first | rfl | trivial⟩
     case measure=>simp [intOf];omega
    ·obtain ⟨q,rfl⟩:∃ q,k=q + 1:=⟨k - 1,by omega⟩;obtain ⟨y,hp⟩:∃ y,xs[q]? =some y:=⟨_,List.getElem?_eq_getElem (by have:=Hn.out;omega)⟩;obtain ⟨_,_,e,_,e0⟩:=Hk.out.int q y hp;cases e;have hk1:decide ((0:Int) < ((q + 1:Nat):Int))=true:=by simp
     have hk2:((q + 1:Nat):Int) - 1=(q:Int):=by omega
     have Hp:=Lib.hid hp;clear hp;by_cases hle:x≤y
     ·have hle':decide (x≤y)=true:=decide_eq_true hle;have Hf:Hid (7=F):=step_is Hs.out (by rw [kdF,HD.out,ahd_succ xs q y Hp.out];simp [hle]) (by decide);have Hr:Hid (7=R):=by show _=_;rw [← HR3.out,← Hf.out];rfl
      go_wp2_with fail
      go_ret;exact ⟨ret_i Hr.out,Hb0.out⟩
     ·have hle':decide (x≤y)=false:=decide_eq_false hle;have Hn1:Hid (kdsGo (some x) (xs.drop (q + 1 + 1))=F):=step_go Hs.out (by rw [kdF,HD.out,ahd_succ xs q y Hp.out];simp [hle]);go_wp2_with fail
      go_roundw
      case rel=>exact ⟨q + 1 + 1,by omega,by go_num,by show _=_;rw [ahd_succ xs (q + 1) x Hx.out];exact Hn1.out,by first | rfl | trivial⟩
      case measure=>simp [intOf];omega
  ·have Hf:Hid (0=F):=by show _=_;rw [← Hr.out,List.drop_eq_nil_of_le (by have:=Hn.out;omega)];rfl
   have HR4:Hid ((if M=false then 1 else if 200 < nw then 2 else if G≠0 then G else H)=R):=by show _=_;rw [← HR3.out,← Hf.out];rfl
   clear HR3 Hr Hf;cases M
   ·have Hr:Hid (1=R):=HR4.out;go_wp2_with fail
    refine (HMc.out _).mono ?_;rintro e _ ⟨rfl,rfl⟩;go_wp2_with fail
    go_ret;exact ⟨ret_i Hr.out,Hb0.out⟩
   ·go_wp2_with fail
    refine (HMc.out _).mono ?_;rintro e _ ⟨rfl,rfl⟩;have HR5:Hid ((if 200 < nw then 2 else if G≠0 then G else H)=R):=HR4.out;clear HR4;by_cases h2:200 < nw
    ·have Hr:Hid (2=R):=by show _=_;rw [← HR5.out,if_pos h2]
     go_wp2_with fail
     go_ret;exact ⟨ret_i Hr.out,Hb0.out⟩
    ·have HR6:Hid ((if G≠0 then G else H)=R):=by show _=_;rw [← HR5.out,if_neg h2]
     clear HR5;go_wp2_with fail
     refine (HC1.out _ Hb0.out).mono ?_;rintro e w2 ⟨rfl,hl2⟩;have Hb2:Hid (Below w.heap.size w w2):=Hb0.out.trans (hl2.mono Hb0.out.size);have c3:=Hl3.out w2 hl2;clear hl2 c0 c1 c2 HC1;by_cases hG:G=0
     ·have Hn2:=Lib.hid (step_go HR6.out hG);subst hG;go_wp2_with fail
      refine (HC2.out _ Hb2.out).mono ?_;rintro e w3 ⟨rfl,hl3⟩;go_wp2_with fail
      go_ret;exact ⟨ret_i Hn2.out,Hb2.out.trans (hl3.mono Hb2.out.size)⟩
     ·have Hn2:=Lib.hid (step_no HR6.out hG);have hG':(G != 0)=true:=by simpa using hG
      go_wp2_with fail
      go_ret;exact ⟨ret_i Hn2.out,Hb2.out⟩
end
section
open Go Go.RowKit
theorem contains_has (l:List ByteArray)(x:ByteArray):Lib.containsS l x=hasB l x:=by
 rw [Bool.eq_iff_iff,Lib.containsS_iff,List.any_eq_true];exact ⟨fun h=>⟨x,h,beqS.2 rfl⟩,fun ⟨y,hy,e⟩=>by rw [← beqS.1 e];exact hy⟩
set_option maxHeartbeats 4000000 in
set_option maxRecDepth 100000 in
theorem refSurv_any (N:Nat→Prop)(A:Option Addr)(nm:ByteArray)(how:Int)(xs:List ByteArray)(c:Nat)(last:ByteArray)(w:World)(hS:Sl rStr N w A xs)(hc:xs.length≤c)(hl:xs.length≤1000000)(hn:nm.size≤1000000)(ht:∀ x∈xs,x.size≤1000000) :
  Calls Tryz.prog 74 #[.agg #[.string nm,.int .i64 how,.slice A xs.length c],.string last] w fun e w'=>e=.returned (.int .i64 (svE (L.isKey nm) (isHow how) (srcsF how xs) (leS nm last)))∧Below w.heap.size w w':=by
 have hb0:Below w.heap.size w (w.alloc (.cells #[.string nm,.int .i64 how,.slice A xs.length c] 124)):=(Below.refl _ _).alloc (Nat.le_refl _) _;have Hb0:=Lib.hid hb0;have lv0:=LV.new w w.heap.size #[.string nm,.int .i64 how,.slice A xs.length c] 124 rfl;have HS:=Lib.hid (hS.keepB hb0);have HT:=Lib.hid ht;obtain ⟨K,HK⟩:∃ K,Hid (L.isKey nm=K):=⟨_,Lib.hid rfl⟩;obtain ⟨H,HH⟩:∃ H,Hid (isHow how=H):=⟨_,Lib.hid rfl⟩;obtain ⟨F,HF⟩:∃ F,Hid (srcsF how xs=F):=⟨_,Lib.hid rfl⟩;obtain ⟨B,HB⟩:∃ B,Hid (leS nm last=B):=⟨_,Lib.hid rfl⟩;have C1:Hid (∀ w,Calls Tryz.prog 61 #[.string nm] w fun e w'=>e=.returned (.bool K)∧Below w.heap.size w w'):=fun w=>HK.out ▸ Key_any nm w (by omega);have C2:Hid (∀ w,Calls Tryz.prog 62 #[.int .i64 how,.int .i64 1,.int .i64 7] w fun e w'=>e=.returned (.bool H)∧w=w'):=fun w=>HH.out ▸ in_any how 1 7 w;rw [HK.out,HH.out,HF.out,HB.out];obtain ⟨R,HR⟩:∃ R,Hid (svE K H F B=R):=⟨_,Lib.hid rfl⟩;rw [HR.out];clear hS ht hb0 HK HH;go_enter Tryz.func74,Tryz.ntmps74
 go_upto_region 1 with fail
 generalize w.alloc (.cells #[.string nm,.int .i64 how,.slice A xs.length c] 124)=w1 at *;obtain ⟨Y,hY⟩:∃ Y,Y=w.heap.size:=⟨_,rfl⟩;rw [← hY] at lv0 ⊢;clear hY;obtain ⟨n,hnn⟩:∃ n,xs.length=n:=⟨_,rfl⟩;have Hn:=Lib.hid hnn;rw [hnn] at lv0 hc hl;clear hnn;have c0:=lv0.all;go_wp2_with fail
 refine (C1.out w1).mono ?_;rintro e w2 ⟨rfl,hl2⟩;have Hb2:Hid (Below w.heap.size w w2):=Hb0.out.trans (hl2.mono Hb0.out.size);have lv2:=LV.kb3 lv0 hl2 lv0.lt;have HS2:=Lib.hid (HS.out.keepB hl2);clear hl2 c0 lv0 HS C1 Hb0;have c0:=lv2.all;cases K
 ·obtain rfl:5=R:=HR.out;go_wp2_with fail
  go_ret;exact ⟨rfl,Hb2.out⟩
 ·cases H
  ·obtain rfl:4=R:=HR.out;go_wp2_with fail
   refine (C2.out _).mono ?_;rintro e _ ⟨rfl,rfl⟩;go_wp2_with fail
   go_ret;exact ⟨rfl,Hb2.out⟩
  ·have HR2:Hid ((if F≠0 then F else if B=true then 7 else 0)=R):=HR.out;clear HR;go_wp2_with fail
   refine (C2.out _).mono ?_;rintro e _ ⟨rfl,rfl⟩;have HF2:Hid ((if 0 < n∧how≠5 then 3 else if 20 < n then 2 else srsGo [] xs)=F):=by show _=_;rw [← HF.out,srcsF,Hn.out]
   clear HF;by_cases h1:0 < n∧how≠5
   ·have Hf:Hid (3=F):=by show _=_;rw [← HF2.out,if_pos h1]
    have Hr:Hid (3=R):=by show _=_;rw [← HR2.out,← Hf.out];rfl
    obtain ⟨h2,h3⟩:=h1;have h3':(how != 5)=true:=by simpa using h3
    have h2':decide ((0:Int) < (n:Int))=true:=by simpa using h2
    clear HR2 h3;go_wp2_with fail
    go_ret;exact ⟨ret_i Hr.out,Hb2.out⟩
   ·have HF3:Hid ((if 20 < n then 2 else srsGo [] xs)=F):=by show _=_;rw [← HF2.out,if_neg h1]
    clear HF2;by_cases h20:20 < n
    ·have h2':decide ((0:Int) < (n:Int))=true:=by simp;omega
     have h3:how=5:=Decidable.byContradiction fun h=>h1 ⟨by omega,h⟩;have h3':(how != 5)=false:=by simp [h3]
     clear h3 h1;have Hf:Hid (2=F):=by show _=_;rw [← HF3.out,if_pos h20]
     have Hr:Hid (2=R):=by show _=_;rw [← HR2.out,← Hf.out];rfl
     clear HR2 HF3;go_wp2_with fail
     go_ret;exact ⟨ret_i Hr.out,Hb2.out⟩
    ·have HF4:Hid (srsGo [] xs=F):=by show _=_;rw [← HF3.out,if_neg h20]
     clear HF3;have hform:(0 < n∧how=5)∨n=0:=by
      rcases Nat.eq_zero_or_pos n with h | h
      ·exact .inr h
      ·exact .inl ⟨h,Decidable.byContradiction fun h2=>h1 ⟨h,h2⟩⟩
     clear h1;rcases hform with ⟨h0,h3⟩ | h0
     ·have h2':decide ((0:Int) < (n:Int))=true:=by simp;omega
      have h3':(how != 5)=false:=by simp [h3]
      clear h3;go_wp2_with fail
      clear c0;go_loopw [35] (fun i wr=>∃ k:Nat,k≤n∧i=.int .i64 k∧Hid (srsGo (xs.take k) (xs.drop k)=F)∧Below w2.heap.size w2 wr) (fun i _=>n - (intOf i).toNat)
      case atStart=>exact ⟨0,Nat.zero_le _,rfl,HF4,Below.refl _ _⟩
      case round =>
       clear HF4;obtain ⟨k,hk,rfl,Hr,hbl⟩:=hrel;have lvr:=LV.kb3 lv2 hbl lv2.lt;have c0:=lvr.all;have Hbr:Hid (Below w.heap.size w wr):=Hb2.out.trans (hbl.mono Hb2.out.size);have HSr:=Lib.hid (HS2.out.keepB hbl);have Hbl:=Lib.hid hbl;clear hbl;by_cases hlt:k < n
       ·obtain ⟨x,hx⟩:∃ x,xs[k]? =some x:=⟨_,List.getElem?_eq_getElem (by have:=Hn.out;omega)⟩;have hxs:x.size≤1000000:=HT.out x (List.mem_of_getElem? hx);obtain ⟨blk,off,rfl,hblk,d0⟩:=HSr.out.str k x hx;have Hs:Hid ((if srF (xs.take k) x≠0 then srF (xs.take k) x else srsGo (xs.take k++[x]) (xs.drop (k + 1)))=F):=by show _=_;rw [← Hr.out,srsGo_at hx]
        obtain ⟨Q,HQ⟩:∃ Q,Hid (L.isKey x=Q):=⟨_,Lib.hid rfl⟩;have HC:Hid (∀ w,Calls Tryz.prog 61 #[.string x] w fun e w'=>e=.returned (.bool Q)∧Below w.heap.size w w'):=fun w=>HQ.out ▸ Key_any x w (by omega);have Hx:=Lib.hid hx;clear Hr hx;go_wp2_with fail
        refine (HC.out wr).mono ?_;rintro e w3 ⟨rfl,hl3⟩;have Hb3:Hid (Below w.heap.size w w3):=Hbr.out.trans (hl3.mono Hbr.out.size);have Hbl3:Hid (Below w2.heap.size w2 w3):=Hbl.out.trans (hl3.mono Hbl.out.size);have lv3:=LV.kb3 lvr hl3 lvr.lt;have HS3:=Lib.hid (HSr.out.keepB hl3);clear c0 hl3 HC d0 lvr;have c0:=lv3.all;cases Q
        ·have Hf:Hid (5=F):=step_is Hs.out (by rw [srF,if_pos HQ.out]) (by decide);have Hr:Hid (5=R):=by show _=_;rw [← HR2.out,← Hf.out];rfl
         go_wp2_with fail
         go_ret;exact ⟨ret_i Hr.out,Hb3.out⟩
        ·obtain ⟨T,HT2⟩:∃ T,Hid (hasB (xs.take k) x=T):=⟨_,Lib.hid rfl⟩;have Hs2:Hid ((if T=true then 6 else srsGo (xs.take k++[x]) (xs.drop (k + 1)))=F):=by
          show _=_;have e:srF (xs.take k) x=if T=true then 6 else 0:=by rw [srF,HQ.out,if_neg (by decide),← HT2.out]
          rw [← Hs.out,e];cases T <;> rfl
         have Hc:=Lib.hid (containsStr_any N (some ⟨blk,off,none⟩) xs c k x w3 HS3.out (by have:=Hn.out;omega) (by have:=Hn.out;omega));rw [contains_has,HT2.out] at Hc;have hkc:k≤c:=by omega
         clear Hs;go_wp2_with fail
         refine (Hc.out).mono ?_;rintro e _ ⟨rfl,rfl⟩;cases T
         ·have Hn1:Hid (srsGo (xs.take k++[x]) (xs.drop (k + 1))=F):=Hs2.out;clear c0;go_wp2_with fail
          go_roundw
          case rel=>exact ⟨k + 1,by omega,by go_num,by show _=_;rw [take_snoc Hx.out];exact Hn1.out,Hbl3.out⟩
          case measure=>simp [intOf];omega
         ·have Hf:Hid (6=F):=Hs2.out;have Hr:Hid (6=R):=by show _=_;rw [← HR2.out,← Hf.out];rfl
          go_wp2_with fail
          go_ret;exact ⟨ret_i Hr.out,Hb3.out⟩
       ·have Hf:Hid (0=F):=by show _=_;rw [← Hr.out,List.drop_eq_nil_of_le (by have:=Hn.out;omega)];rfl
        have HR3:Hid ((if B=true then 7 else 0)=R):=by show _=_;rw [← HR2.out,← Hf.out];rfl
        clear HR2 Hr Hf;have hB:(Op.bytesLess nm.toList last.toList || (nm.toList==last.toList))=B:=HB.out;cases B
        ·have Hr:Hid (0=R):=HR3.out;go_wp2_with fail
         all_goals first | (go_ret;exact ⟨ret_i Hr.out,Hbr.out⟩) | (exfalso;simp_all)
        ·have Hr:Hid (7=R):=HR3.out;go_wp2_with fail
         all_goals first | (go_ret;exact ⟨ret_i Hr.out,Hbr.out⟩) | (exfalso;simp_all)
     ·have hx0:xs=[]:=List.length_eq_zero_iff.1 (by rw [Hn.out];exact h0);have HR3:Hid ((if B=true then 7 else 0)=R):=by show _=_;rw [← HR2.out,← HF4.out,hx0];rfl
      have hB:(Op.bytesLess nm.toList last.toList || (nm.toList==last.toList))=B:=HB.out;subst h0;clear hx0 HR2 HF4;go_wp2_with fail
      go_loopw [35] (fun i wr=>i=.int .i64 0∧w2=wr) (fun _ _=>0)
      case atStart=>exact ⟨rfl,rfl⟩
      case round =>
       obtain ⟨rfl,rfl⟩:=hrel;cases B
       ·have Hr:Hid (0=R):=HR3.out;go_wp2_with fail
        all_goals first | (go_ret;exact ⟨ret_i Hr.out,Hb2.out⟩) | (exfalso;simp_all)
       ·have Hr:Hid (7=R):=HR3.out;go_wp2_with fail
        all_goals first | (go_ret;exact ⟨ret_i Hr.out,Hb2.out⟩) | (exfalso;simp_all)
set_option maxHeartbeats 4000000 in
set_option maxRecDepth 100000 in
theorem refRules_any (N:Nat→Prop)(r:Rul)(K W S:Option Addr)(ck cw cs:Nat)(w:World)(hR:RulIn N w r K W S)(hok:RulOk r)(hM:MaxL w) :
  Calls Tryz.prog 17 #[.agg (ruCs r K ck W cw S cs)] w fun e w'=>e=.returned (.int .i64 (rulFault r))∧Below w.heap.size w w':=by
 have hb0:Below w.heap.size w (w.alloc (.cells (ruCs r K ck W cw S cs) 29)):=(Below.refl _ _).alloc (Nat.le_refl _) _;have lv0:=LV.new w w.heap.size (ruCs r K ck W cw S cs) 29 rfl;have Hk:=Lib.hid (hR.kd.keepB hb0);have HC1:=Lib.hid (fun w' (h:Below w.heap.size w w')=>refIds_any N W r.weak cw w' (hR.wk.keepB h) hok.wl hok.wt (hM.below h));have HSv:=Lib.hid (fun w' (h:Below w.heap.size w w')=>hR.sv.keepB h);have hkl:=hok.kl;have hwl:=hok.wl;have hsl:=hok.sl;have H1:=Lib.hid hok.sn;have H2:=Lib.hid hok.ss;have H3:=Lib.hid hok.st;obtain ⟨R,HR⟩:∃ R,Hid (rulFault r=R):=⟨_,Lib.hid rfl⟩;rw [HR.out];obtain ⟨xs,most,weak,surv⟩:=r;dsimp only at *
 obtain ⟨F,HF⟩:∃ F,Hid (kdsGo none xs=F):=⟨_,Lib.hid rfl⟩;obtain ⟨M,HM⟩:∃ M,Hid (decide (2≤most∧most≤2000)=M):=⟨_,Lib.hid rfl⟩;obtain ⟨G,HG⟩:∃ G,Hid (idsUp weak=G):=⟨_,Lib.hid rfl⟩;obtain ⟨H,HH⟩:∃ H,Hid (svsFault surv=H):=⟨_,Lib.hid rfl⟩;have HR2:Hid (rulE xs.length F M weak.length G H=R):=by show _=_;rw [← HR.out,rulFault,HF.out,HM.out,HG.out,HH.out]
 rw [HG.out] at HC1;have HMc:Hid (∀ w,Calls Tryz.prog 62 #[.int .i64 most,.int .i64 2,.int .i64 2000] w fun e w'=>e=.returned (.bool M)∧w=w'):=fun w=>HM.out ▸ in_any most 2 2000 w;have Hb0:=Lib.hid hb0;clear HR HG HM hb0 hR hok hM;go_enter Tryz.func17,Tryz.ntmps17
 go_upto_region 1 with fail
 generalize w.alloc (.cells (ruCs ⟨xs,most,weak,surv⟩ K ck W cw S cs) 29)=w1 at *;obtain ⟨Y,hY⟩:∃ Y,Y=w.heap.size:=⟨_,rfl⟩;rw [← hY] at lv0 ⊢;clear hY;obtain ⟨n,hn⟩:∃ n,n=xs.length:=⟨_,rfl⟩;obtain ⟨nw,hnw⟩:∃ n,n=weak.length:=⟨_,rfl⟩;obtain ⟨ns,hns⟩:∃ n,n=surv.length:=⟨_,rfl⟩;have c0:w1.cell? ⟨Y,0,none⟩=some (.slice K n ck):=by rw [hn];exact lv0.cell 0 _ rfl
 have c1:w1.cell? ⟨Y,1,none⟩=some (.int .i64 most):=lv0.cell 1 _ rfl;have c2:w1.cell? ⟨Y,2,none⟩=some (.slice W nw cw):=by rw [hnw];exact lv0.cell 2 _ rfl
 have lv3:∀ w',Below w1.heap.size w1 w'→w'.cell? ⟨Y,3,none⟩=some (.slice S ns cs):=fun w' h=>by rw [hns];exact (LV.kb3 lv0 h lv0.lt).cell 3 _ rfl
 have Hl3:=Lib.hid lv3;rw [← hn,← hnw] at HR2;rw [← hnw] at HC1;have Hn:=Lib.hid hn;have Hns:=Lib.hid hns;rw [← hn] at hkl;rw [← hnw] at hwl;rw [← hns] at hsl;clear hn hnw hns lv0 lv3;by_cases h0:n=0
 ·have Hr:Hid (3=R):=by show _=_;rw [← HR2.out,rulE,if_pos h0]
  subst h0;go_wp2_with fail
  go_ret;exact ⟨ret_i Hr.out,Hb0.out⟩
 have HR3:Hid ((if F≠0 then F else if M=false then 1 else if 200 < nw then 2 else if G≠0 then G else H)=R):=by show _=_;rw [← HR2.out,rulE,if_neg h0]
 clear HR2;go_wp2_with fail
 have e9:((n:Int)==0)=false:=by simpa using h0
 rw [e9];clear e9;go_loopw [3,18] (fun s i wr=>∃ (k:Nat) (last:Int),k≤n∧i=.int .i64 k∧s=.int .i64 last∧Hid (∀ p,ahd xs k=some p→last=p)∧Hid (kdsGo (ahd xs k) (xs.drop k)=F)∧w1=wr) (fun _ i _=>n - (intOf i).toNat)
 case atStart=>exact ⟨0,0,Nat.zero_le _,rfl,rfl,(by show ∀ p,_;intro p h;cases h),HF,rfl⟩
 case round =>
  obtain ⟨k,last,hk,rfl,rfl,Hlast,Hr,rfl⟩:=hrel;clear HF;by_cases hlt:k < n
  ·obtain ⟨x,hx⟩:∃ x,xs[k]? =some x:=⟨_,List.getElem?_eq_getElem (by have:=Hn.out;omega)⟩;obtain ⟨blk,off,rfl,hblk,d0⟩:=Hk.out.int k x hx;obtain ⟨D,HD⟩:∃ D,Hid (isKd x=D):=⟨_,Lib.hid rfl⟩;have Hs:Hid ((if kdF (ahd xs k) x≠0 then kdF (ahd xs k) x else kdsGo (some x) (xs.drop (k + 1)))=F):=by show _=_;rw [← Hr.out,kdsGo_at hx]
   have HDc:Hid (∀ w,Calls Tryz.prog 62 #[.int .i64 x,.int .i64 1,.int .i64 4] w fun e w'=>e=.returned (.bool D)∧w=w'):=fun w=>HD.out ▸ in_any x 1 4 w;have Hx:=Lib.hid hx;clear Hr hx;have Hlast2:Hid (∀ p,ahd xs (k + 1)=some p→x=p):=fun p hp=>by rw [ahd_succ xs k x Hx.out] at hp;exact Option.some.inj hp
   cases D
   ·have Hf:Hid (4=F):=step_is Hs.out (by rw [kdF,if_pos HD.out]) (by decide);have Hr:Hid (4=R):=by show _=_;rw [← HR3.out,← Hf.out];rfl
    go_wp2_with fail
    refine (HDc.out _).mono ?_;rintro e _ ⟨rfl,rfl⟩;go_wp2_with fail
    go_ret;exact ⟨ret_i Hr.out,Hb0.out⟩
   ·go_wp2_with fail
    refine (HDc.out _).mono ?_;rintro e _ ⟨rfl,rfl⟩;by_cases hk0:k=0
    ·subst hk0;have Hn1:Hid (kdsGo (some x) (xs.drop (0 + 1))=F):=step_go Hs.out (by rw [kdF,HD.out];rfl);go_wp2_with fail
     go_roundw
     case rel=>exact ⟨1,x,by omega,by go_num,rfl,Hlast2,by show _=_;rw [show ahd xs 1=some x from ahd_succ xs 0 x Hx.out];exact Hn1.out,by first | rfl | trivial⟩
     case measure=>simp [intOf];omega
    ·obtain ⟨q,rfl⟩:∃ q,k=q + 1:=⟨k - 1,by omega⟩;obtain ⟨y,hp⟩:∃ y,xs[q]? =some y:=⟨_,List.getElem?_eq_getElem (by have:=Hn.out;omega)⟩;obtain rfl:last=y:=Hlast.out y (ahd_succ xs q y hp);have hk1:decide ((0:Int) < ((q + 1:Nat):Int))=true:=by simp
     have Hp:=Lib.hid hp;clear hp Hlast;by_cases hle:x≤last
     ·have hle':decide (x≤last)=true:=decide_eq_true hle;have Hf:Hid (7=F):=step_is Hs.out (by rw [kdF,HD.out,ahd_succ xs q last Hp.out];simp [hle]) (by decide);have Hr:Hid (7=R):=by show _=_;rw [← HR3.out,← Hf.out];rfl
      go_wp2_with fail
      go_ret;exact ⟨ret_i Hr.out,Hb0.out⟩
     ·have hle':decide (x≤last)=false:=decide_eq_false hle;have Hn1:Hid (kdsGo (some x) (xs.drop (q + 1 + 1))=F):=step_go Hs.out (by rw [kdF,HD.out,ahd_succ xs q last Hp.out];simp [hle]);go_wp2_with fail
      go_roundw
      case rel=>exact ⟨q + 1 + 1,x,by omega,by go_num,rfl,Hlast2,by show _=_;rw [ahd_succ xs (q + 1) x Hx.out];exact Hn1.out,by first | rfl | trivial⟩
      case measure=>simp [intOf];omega
  ·have Hf:Hid (0=F):=by show _=_;rw [← Hr.out,List.drop_eq_nil_of_le (by have:=Hn.out;omega)];rfl
   have HR4:Hid ((if M=false then 1 else if 200 < nw then 2 else if G≠0 then G else H)=R):=by show _=_;rw [← HR3.out,← Hf.out];rfl
   clear HR3 Hr Hf Hlast;cases M
   ·have Hr:Hid (1=R):=HR4.out;go_wp2_with fail
    refine (HMc.out _).mono ?_;rintro e _ ⟨rfl,rfl⟩;go_wp2_with fail
    go_ret;exact ⟨ret_i Hr.out,Hb0.out⟩
   ·go_wp2_with fail
    refine (HMc.out _).mono ?_;rintro e _ ⟨rfl,rfl⟩;have HR5:Hid ((if 200 < nw then 2 else if G≠0 then G else H)=R):=HR4.out;clear HR4;by_cases h2:200 < nw
    ·have Hr:Hid (2=R):=by show _=_;rw [← HR5.out,if_pos h2]
     go_wp2_with fail
     go_ret;exact ⟨ret_i Hr.out,Hb0.out⟩
    ·have HR6:Hid ((if G≠0 then G else H)=R):=by show _=_;rw [← HR5.out,if_neg h2]
     clear HR5;go_wp2_with fail
     refine (HC1.out _ Hb0.out).mono ?_;rintro e w2 ⟨rfl,hl2⟩;have Hb2:Hid (Below w.heap.size w w2):=Hb0.out.trans (hl2.mono Hb0.out.size);have c3:=Hl3.out w2 hl2;clear hl2 c0 c1 c2 HC1;by_cases hG:G=0
     ·have Hn2:=Lib.hid (step_go HR6.out hG);clear HR6;subst hG;by_cases h30:30 < ns
      ·have Hr:Hid (2=R):=by show _=_;rw [← Hn2.out,← HH.out,svsFault,if_pos (by have:=Hns.out;omega)]
       go_wp2_with fail
       go_ret;exact ⟨ret_i Hr.out,Hb2.out⟩
      ·have HH2:Hid (svsGo none surv=R):=by show _=_;rw [← Hn2.out,← HH.out,svsFault,if_neg (by have:=Hns.out;omega)]
       clear HH Hn2;go_wp2_with fail
       go_loopw [7,56] (fun s i wr=>∃ (k:Nat) (last:ByteArray),k≤ns∧i=.int .i64 k∧s=.string last∧Hid (((ahd surv k).map Srv.name).getD ⟨#[]⟩=last)∧Hid (svsGo ((ahd surv k).map Srv.name) (surv.drop k)=R)∧Below w.heap.size w wr) (fun _ i _=>ns - (intOf i).toNat)
       case atStart=>exact ⟨0,⟨#[]⟩,Nat.zero_le _,rfl,rfl,rfl,HH2,Hb2.out⟩
       case round =>
        clear HH2 c3 Hb2;obtain ⟨k,last,hk,rfl,rfl,Hlast,Hr,hbl⟩:=hrel;by_cases hlt:k < ns
        ·obtain ⟨p,hf⟩:∃ p,surv[k]? =some p:=⟨_,List.getElem?_eq_getElem (by have:=Hns.out;omega)⟩;have hp1:p.name.size≤1000000:=H1.out p (List.mem_of_getElem? hf);obtain ⟨K1,HK1⟩:∃ K,Hid (L.isKey p.name=K):=⟨_,Lib.hid rfl⟩;obtain ⟨blk,off,As,cs2,rfl,hblk,d0,d1,d2,hcs,hst⟩:=(HSv.out wr hbl).srv k p hf;have hb0:Below wr.heap.size wr (wr.alloc (.cells (svCs p As cs2) 124)):=(Below.refl _ _).alloc (Nat.le_refl _) _;have Hb1:Hid (Below w.heap.size w (wr.alloc (.cells (svCs p As cs2) 124))):=hbl.alloc hbl.size _;have lvY:LV _ wr.heap.size _ _:=LV.new wr wr.heap.size (svCs p As cs2) 124 rfl;have Hc:=Lib.hid (refSurv_any N As p.name p.how p.srcs cs2 last _ (hst.keepB hb0) hcs (H2.out p (List.mem_of_getElem? hf)) hp1 (H3.out p (List.mem_of_getElem? hf)));obtain ⟨E,HE⟩:∃ E,Hid (svE (L.isKey p.name) (isHow p.how) (srcsF p.how p.srcs) (leS p.name last)=E):=⟨_,Lib.hid rfl⟩;have Hs:Hid ((if E≠0 then E else svsGo (some p.name) (surv.drop (k + 1)))=R):=by
          show _=_;rw [← Hr.out,svsGo_at hf,svF];have e:svE (L.isKey p.name) (isHow p.how) (srcsF p.how p.srcs) (((ahd surv k).map Srv.name).any (fun q=>leS p.name q))=E:=by
           rw [← HE.out];cases hkk:L.isKey p.name with
           | false=>rfl
           | true=>rw [key_le hkk,Hlast.out]
          rw [e]
         rw [HE.out] at Hc;have Hf:=Lib.hid hf;clear hst hb0 hcs Hr hf HE Hlast hbl;go_wp2_with fail
         refine (Hc.out).mono ?_;rintro e w3 ⟨rfl,hl3⟩;have lv4:=LV.kb3 lvY hl3 lvY.lt;have Hb3:Hid (Below w.heap.size w w3):=Hb1.out.trans (hl3.mono Hb1.out.size);clear Hc hl3 d0 d1 d2 lvY;by_cases hE:E=0
         ·have Hn3:=Lib.hid (step_go Hs.out hE);subst hE;have y0:=lv4.cell 0 _ rfl;go_wp2_with fail
          go_roundw
          case rel=>exact ⟨k + 1,p.name,by omega,by go_num,rfl,by show _=_;rw [ahd_succ surv k p Hf.out];rfl,by show _=_;rw [ahd_succ surv k p Hf.out];exact Hn3.out,Hb3.out⟩
          case measure=>simp [intOf];omega
         ·have Hn3:=Lib.hid (step_no Hs.out hE);have hE':(E != 0)=true:=by simpa using hE
          go_wp2_with fail
          go_ret;exact ⟨ret_i Hn3.out,Hb3.out⟩
        ·go_wp2_with fail
         go_ret;exact ⟨ret_i (by rw [← Hr.out,List.drop_eq_nil_of_le (by have:=Hns.out;omega)];rfl),hbl⟩
     ·have Hn2:=Lib.hid (step_no HR6.out hG);have hG':(G != 0)=true:=by simpa using hG
      go_wp2_with fail
      go_ret;exact ⟨ret_i Hn2.out,Hb2.out⟩
end
end Go.Proofs.YtmkkppknaikjjaaGreatDoor
