/- Several texts in one: TchLaw, Contains, TchChk, TchRef, RulChk, RulRef. -/
import Derived.Test.YtmkkppknaikjjaaGreatDoorPackR
/- Touches, and rules of joining: how they lie in memory, and their faults in plain words. -/
set_option maxHeartbeats 4000000
set_option maxRecDepth 100000
open Go.Lib renaming hid→Z9, compareInt→ZL
open List renaming getElem?_eq_getElem→Z8, mem_of_getElem?→Z7, drop_eq_nil_of_le→ZJ
open Nat renaming le_refl→Z5, zero_le→ZN
open Go.RowKit.Below renaming refl→ZX
open Bool renaming eq_iff_iff→Y7, false_eq_true→YP
namespace Go.Proofs.YtmkkppknaikjjaaGreatDoor
section
open Go Go.RowKit
structure ak where
 no:Int
 at':Int
 src:ByteArray
 ids:List ah
 aB:List aQ
def ak.cells (t:ak):List Value:=[.int .i64 t.no,.int .i64 t.at',.string t.src]
def fU:Rep ak:=(((Rep.flat 3 ak.cells (fun _=>rfl)).app aO.list).app bK.list).via (fun t=>((t,t.ids),t.aB))
abbrev aS (t:ak)(A:Option Addr)(c:Nat)(B:Option Addr)(d:Nat):Array Value:=#[.int .i64 t.no,.int .i64 t.at',.string t.src,.slice A t.ids.length c,.slice B t.aB.length d]
theorem afN {N:Nat→Prop}{w:World}{t:ak}{A B:Option Addr}{c d:Nat}(hA:Sl aO N w A t.ids)(hB:Sl bK N w B t.aB):fU.rel N w t (aS t A c B d).toList :=
 ⟨ak.cells t++[.slice A t.ids.length c],[.slice B t.aB.length d],rfl,⟨ak.cells t,[.slice A t.ids.length c],rfl,rfl,A,c,rfl,hA⟩,B,d,rfl,hB⟩
theorem afO {N:Nat→Prop}{w:World}{t:ak}{l:List Value}(h:fU.rel N w t l):∃ A c B d,l=(aS t A c B d).toList∧Sl aO N w A t.ids∧Sl bK N w B t.aB:=by
 obtain ⟨_,_,rfl,⟨l1,_,rfl,h1,A,c,rfl,hA⟩,B,d,rfl,hB⟩:=h;obtain rfl:l1=ak.cells t:=h1;exact ⟨A,c,B,d,rfl,hA,hB⟩
theorem Sl.aC {N:Nat→Prop}{w:World}{A:Option Addr}{xs:List ak}(h:Sl fU N w A xs)(k:Nat)(t:ak)(hk:xs[k]? =some t):∃ blk off Ai ci Af cf,A=some ⟨blk,off,none⟩∧blk < w.heap.size ∧
  w.cell? ⟨blk,off + k * 5,none⟩=some (.int .i64 t.no)∧w.cell? ⟨blk,off + k * 5 + 1,none⟩=some (.int .i64 t.at')∧w.cell? ⟨blk,off + k * 5 + 2,none⟩=some (.string t.src)∧w.cell? ⟨blk,off + k * 5 + 3,none⟩=some (.slice Ai t.ids.length ci) ∧
  w.cell? ⟨blk,off + k * 5 + 4,none⟩=some (.slice Af t.aB.length cf)∧Sl aO N w Ai t.ids∧Sl bK N w Af t.aB:=by
 obtain ⟨blk,off,l,e1,h1,_,h3,h4⟩:=h k t hk;obtain ⟨Ai,ci,Af,cf,rfl,hi,hf⟩:=afO h3;exact ⟨blk,off,Ai,ci,Af,cf,e1,h1,h4 0 _ rfl,h4 1 _ rfl,h4 2 _ rfl,h4 3 _ rfl,h4 4 _ rfl,hi,hf⟩
structure FQ (t:ak):Prop where
 sr:t.src.size≤1000000
 il:t.ids.length≤1000000
 it:∀ x∈t.ids,x.t.size≤1000000
 fl:t.aB.length≤1000000
 fs:∀ f∈t.aB,f.small
structure zZ (l:List ak):Prop where
 len:l.length≤1000000
 ok:∀ t∈l,FQ t
def dA (x y:ah):Int:=jA x.k x.t y.k y.t
theorem afP:dA=Jq (fun a b=>ZL a.k b.k) (fun a b=>eY a.t b.t):=by
 funext a b
 unfold dA jA Jq ZL;by_cases h1:a.k < b.k
 ·simp [h1]
 ·by_cases h2:a.k=b.k
  ·simp [h2]
  ·have h3:b.k < a.k:=by omega
   simp [h1,h2,h3]
theorem nS:fC dA:=by
 rw [afP];exact (Qo.of ah.k).lex (Yv.of ah.t)
theorem Jr {a b:ah}(h:dA a b=0):a=b:=by
 unfold dA jA at h;split at h
 ·omega
 ·split at h
  ·rename_i h1;obtain ⟨k,t⟩:=a;obtain ⟨k',t'⟩:=b;obtain rfl:k=k':=h1;obtain rfl:t=t':=(Ah _ _).1 h;rfl
  ·omega
def rX (prev:Option ah)(x:ah):Bool:=prev.any (fun p=>decide (dA x p≤0))
def rY (F:Int)(B:Bool):Int:=if F≠0 then F else if B=true then 7 else 0
def qQ (prev:Option ah):List ah→Int
 | []=>0
 | x::r=>if rY (L.iq x.k x.t) (rX prev x)≠0 then rY (L.iq x.k x.t) (rX prev x) else qQ (some x) r
def tV (l:List ah):Int:=qQ none l
theorem Yw {prev:Option ah}{l:List ah}{k:Nat}{x:ah}(h:l[k]? =some x):qQ prev (l.drop k)=if rY (L.iq x.k x.t) (rX prev x)≠0 then rY (L.iq x.k x.t) (rX prev x) else qQ (some x) (l.drop (k + 1)):=by
 rw [yB h,qQ]
def mQ (D O K:Bool)(n:Nat)(F G:Int):Int:=if D=false then 1 else if O=true then 7 else if K=false then 5 else if n=0 then 3 else if 10 < n then 2 else if F≠0 then F else G
def gJ (t:ak)(last:Int):Int:=mQ (decide (1≤t.no∧t.no≤1000000) && decide (0≤t.at'∧t.at'≤4321439)) (decide (t.no≤last)) (L.isKey t.src) t.ids.length (tV t.ids) (nM t.aB)
def lT (last:Int):List ak→Int
 | []=>0
 | t::r=>if gJ t last≠0 then gJ t last else lT t.no r
def iy (l:List ak):Int:=if 2000 < l.length then 2 else lT 0 l
theorem Yx {last:Int}{l:List ak}{k:Nat}{t:ak}(h:l[k]? =some t):lT last (l.drop k)=if gJ t last≠0 then gJ t last else lT t.no (l.drop (k + 1)):=by
 rw [yB h,lT]
def Rep.afQ {α:Type}(r:Rep α):Rep (List α) :=
 ⟨1,fun N w xs l=>∃ A c,l=[.slice A xs.length c]∧xs.length≤c∧Sl r N w A xs,fun ⟨_,_,e,_⟩=>by rw [e];rfl,fun k ⟨A,c,e,hc,h⟩=>⟨A,c,e,hc,h.keep k⟩,fun k ⟨A,c,e,hc,h⟩=>⟨A,c,e,hc,h.mono k⟩⟩
structure Srv where
 name:ByteArray
 how:Int
 srcs:List ByteArray
def Srv.cells (s:Srv):List Value:=[.string s.name,.int .i64 s.how]
def iQ:Rep Srv:=((Rep.flat 2 Srv.cells (fun _=>rfl)).app fB.afQ).via (fun s=>(s,s.srcs))
abbrev bG (s:Srv)(A:Option Addr)(c:Nat):Array Value:=#[.string s.name,.int .i64 s.how,.slice A s.srcs.length c]
theorem afR {N:Nat→Prop}{w:World}{s:Srv}{A:Option Addr}{c:Nat}(hc:s.srcs.length≤c)(h:Sl fB N w A s.srcs):iQ.rel N w s (bG s A c).toList:=⟨Srv.cells s,[.slice A s.srcs.length c],rfl,rfl,A,c,rfl,hc,h⟩
theorem afS {N:Nat→Prop}{w:World}{s:Srv}{l:List Value}(h:iQ.rel N w s l):∃ A c,l=(bG s A c).toList∧s.srcs.length≤c∧Sl fB N w A s.srcs:=by
 obtain ⟨l1,l2,rfl,h1,A,c,rfl,hc,h2⟩:=h;obtain rfl:l1=Srv.cells s:=h1;exact ⟨A,c,rfl,hc,h2⟩
theorem Sl.srv {N:Nat→Prop}{w:World}{A:Option Addr}{xs:List Srv}(h:Sl iQ N w A xs)(k:Nat)(s:Srv)(hk:xs[k]? =some s):∃ blk off As cs,A=some ⟨blk,off,none⟩∧blk < w.heap.size ∧
  w.cell? ⟨blk,off + k * 3,none⟩=some (.string s.name)∧w.cell? ⟨blk,off + k * 3 + 1,none⟩=some (.int .i64 s.how)∧w.cell? ⟨blk,off + k * 3 + 2,none⟩=some (.slice As s.srcs.length cs)∧s.srcs.length≤cs∧Sl fB N w As s.srcs:=by
 obtain ⟨blk,off,l,e1,h1,_,h3,h4⟩:=h k s hk;obtain ⟨As,cs,rfl,hc,hs⟩:=afS h3;exact ⟨blk,off,As,cs,e1,h1,h4 0 _ rfl,h4 1 _ rfl,h4 2 _ rfl,hc,hs⟩
structure aP where
 kinds:List Int
 most:Int
 weak:List ah
 aX:List Srv
abbrev aN (r:aP)(K:Option Addr)(ck:Nat)(W:Option Addr)(cw:Nat)(S:Option Addr)(cs:Nat):Array Value:=#[.slice K r.kinds.length ck,.int .i64 r.most,.slice W r.weak.length cw,.slice S r.aX.length cs]
structure kN (N:Nat→Prop) (w:World) (r:aP) (K W S:Option Addr):Prop where
 kd:Sl ay N w K r.kinds
 wk:Sl aO N w W r.weak
 sv:Sl iQ N w S r.aX
theorem kN.aK {N:Nat→Prop}{w w':World}{r:aP}{K W S:Option Addr}(h:kN N w r K W S)(k:Below w.heap.size w w'):kN N w' r K W S:=⟨h.kd.aK k,h.wk.aK k,h.sv.aK k⟩
structure zY (r:aP):Prop where
 kl:r.kinds.length≤1000000
 wl:r.weak.length≤1000000
 wt:∀ x∈r.weak,x.t.size≤1000000
 sl:r.aX.length≤1000000
 sn:∀ s∈r.aX,s.name.size≤1000000
 ss:∀ s∈r.aX,s.srcs.length≤1000000
 st:∀ s∈r.aX,∀ x∈s.srcs,x.size≤1000000
abbrev Q7 (k:Int):Bool:=decide (1≤k∧k≤4)
abbrev Dp (k:Int):Bool:=decide (1≤k∧k≤7)
def pO (prev:Option Int)(k:Int):Int:=if Q7 k=false then 4 else if prev.any (fun p=>decide (k≤p)) then 7 else 0
def qp (prev:Option Int):List Int→Int
 | []=>0
 | k::r=>if pO prev k≠0 then pO prev k else qp (some k) r
theorem Yy {prev:Option Int}{l:List Int}{k:Nat}{x:Int}(h:l[k]? =some x):qp prev (l.drop k)=if pO prev x≠0 then pO prev x else qp (some x) (l.drop (k + 1)):=by
 rw [yB h,qp]
def qR (seen:List ByteArray)(x:ByteArray):Int:=if L.isKey x=false then 5 else if seen.any (fun y=>y.toList==x.toList) then 6 else 0
def ng (seen:List ByteArray):List ByteArray→Int
 | []=>0
 | x::r=>if qR seen x≠0 then qR seen x else ng (seen++[x]) r
theorem aac {seen l:List ByteArray}{k:Nat}{x:ByteArray}(h:l[k]? =some x):ng seen (l.drop k)=if qR seen x≠0 then qR seen x else ng (seen++[x]) (l.drop (k + 1)):=by
 rw [yB h,ng]
def wX (how:Int)(l:List ByteArray):Int:=if 0 < l.length∧how≠5 then 3 else if 20 < l.length then 2 else ng [] l
def svE (K H:Bool)(F:Int)(B:Bool):Int:=if K=false then 5 else if H=false then 4 else if F≠0 then F else if B=true then 7 else 0
def wY (prev:Option ByteArray)(s:Srv):Int:=svE (L.isKey s.name) (Dp s.how) (wX s.how s.srcs) (prev.any (fun p=>jf s.name p))
def qw (prev:Option ByteArray):List Srv→Int
 | []=>0
 | s::r=>if wY prev s≠0 then wY prev s else qw (some s.name) r
theorem aad {prev:Option ByteArray}{l:List Srv}{k:Nat}{s:Srv}(h:l[k]? =some s):qw prev (l.drop k)=if wY prev s≠0 then wY prev s else qw (some s.name) (l.drop (k + 1)):=by
 rw [yB h,qw]
def uY (l:List Srv):Int:=if 30 < l.length then 2 else qw none l
def yE (n:Nat)(F:Int)(M:Bool)(m:Nat)(G H:Int):Int:=if n=0 then 3 else if F≠0 then F else if M=false then 1 else if 200 < m then 2 else if G≠0 then G else H
def jB (r:aP):Int:=yE r.kinds.length (qp none r.kinds) (decide (2≤r.most∧r.most≤2000)) r.weak.length (tV r.weak) (uY r.aX)
def kL (r:aP)(l:List ak):Int:=if jB r≠0 then jB r else iy l
def oJ (l:List ah):Prop:=l.Pairwise (fun a b=>dA a b < 0)
theorem Q8:∀ {l:List ah} {prev:Option ah},qQ prev l=0→(∀ x∈l,L.iq x.k x.t=0)∧(∀ q,prev=some q→∀ x∈l,dA q x < 0)∧oJ l
 | [],_,_=>⟨(fun _ h=>by cases h),(fun _ _ _ h=>by cases h),List.Pairwise.nil⟩
 | x::r,prev,h=>by
  have hx:rY (L.iq x.k x.t) (rX prev x)=0:=by
   by_cases e:rY (L.iq x.k x.t) (rX prev x)=0
   ·exact e
   ·exact absurd (yF h e) e
  obtain ⟨i1,i2,i3⟩:=Q8 (l:=r) (prev:=some x) (tX h hx);unfold rY at hx;have hF:L.iq x.k x.t=0:=by
   by_cases e:L.iq x.k x.t=0
   ·exact e
   ·rw [if_pos e] at hx;exact hx
  rw [if_neg (by simpa using hF)] at hx;have hp:∀ q,prev=some q→dA q x < 0:=fun q hq=>by
   subst hq;have hb:rX (some q) x=false:=by
    cases hh:rX (some q) x with
    | false=>rfl
    | true=>rw [hh,if_pos rfl] at hx;cases hx
   have h1:¬ dA x q≤0:=by simpa [rX] using hb
   have h2:=nS.anti q x;omega
  refine ⟨fun y hy=>?_,fun q hq y hy=>?_,List.pairwise_cons.2 ⟨fun y hy=>i2 x rfl y hy,i3⟩⟩
  ·rcases List.mem_cons.1 hy with rfl | hy
   ·exact hF
   ·exact i1 y hy
  ·rcases List.mem_cons.1 hy with rfl | hy
   ·exact hp q hq
   ·exact nS.lt (hp q hq) (Int.le_of_lt (i2 x rfl y hy))
end
section
open Go.RowKit
theorem Ih (N:Nat→Prop)(A:Option Addr)(xs:List Int)(c n:Nat)(x:Int)(w:World)(hS:Sl ay N w A xs)(hn:n≤xs.length)(hl:xs.length≤1000000) :
  Calls Tryz.prog 93 #[.slice A n c,.int .i64 x] w fun e w'=>e=.returned (.bool ((xs.take n).contains x))∧w=w':=by
 cases n with
 | zero=>exact (Tryz.slices_Contains_int_empty A c x w).mono fun e w' ⟨h1,h2⟩=>⟨by rw [h1];simp,h2.symm⟩
 | succ n =>
  obtain ⟨blk,off,rfl,_,_⟩:=hS.int 0 xs[0] (Z8 (by omega));refine (Tryz.slices_Contains_int blk off (n + 1) c xs x w hn (by omega) (fun j hj=>?_)).mono fun e w' ⟨h1,h2⟩=>⟨h1,h2.symm⟩;obtain ⟨_,_,e,_,hc⟩:=hS.int j xs[j] (Z8 hj);cases e;rw [hc];simp [hj]
theorem afT (N:Nat→Prop)(A:Option Addr)(xs:List ByteArray)(c n:Nat)(x:ByteArray)(w:World)(hS:Sl fB N w A xs)(hn:n≤xs.length)(hl:xs.length≤1000000) :
  Calls Tryz.prog 149 #[.slice A n c,.string x] w fun e w'=>e=.returned (.bool (Lib.containsS (xs.take n) x))∧w=w':=by
 cases n with
 | zero=>exact (Tryz.slices_Contains_string_empty A c x w).mono fun e w' ⟨h1,h2⟩=>⟨by rw [h1];rfl,h2.symm⟩
 | succ n =>
  obtain ⟨blk,off,rfl,_,_⟩:=hS.str 0 xs[0] (Z8 (by omega));refine (Tryz.slices_Contains_string blk off (n + 1) c xs x w hn (by omega) (fun j hj=>?_)).mono fun e w' ⟨h1,h2⟩=>⟨h1,h2.symm⟩;obtain ⟨_,_,e,_,hc⟩:=hS.str j xs[j] (Z8 hj);cases e;rw [hc];simp [hj]
end
section
open Go Go.RowKit
theorem gU {w:World}{blk o:Nat}{k:Int}{t:ByteArray}(c0:w.cell? ⟨blk,o,none⟩=some (.int .i64 k))(c1:w.cell? ⟨blk,o + 1,none⟩=some (.string t)):(Instr.loadAt 46 (.pointer (some ⟨blk,o,none⟩))).run Tryz.prog w=.ok (.agg #[.int .i64 k,.string t]) w:=by
 go_simp
theorem aae (N:Nat→Prop)(A:Option Addr)(xs:List ah)(c:Nat)(w:World)(hS:Sl aO N w A xs)(hl:xs.length≤1000000)(ht:∀ x∈xs,x.t.size≤1000000)(hM:gG w) :
  Calls Tryz.prog 144 #[.slice A xs.length c] w fun e w'=>e=.returned (.int .i64 (tV xs))∧Below w.heap.size w w':=by
 have HS:=Z9 (fun w' (h:Below w.heap.size w w')=>hS.aK h);have HM:=Z9 (fun w' (h:Below w.heap.size w w')=>hM.below h);have HT:=Z9 ht;obtain ⟨R,HR⟩:∃ R,Hid (tV xs=R):=⟨_,Z9 rfl⟩;rw [HR.out];clear hS hM ht;go_enter Tryz.func144,Tryz.ntmps144
 go_wp2_with fail
 go_loopw [8] (fun i wr=>∃ k:Nat,k≤xs.length∧i=.int .i64 k∧Hid (qQ (lu xs k) (xs.drop k)=R)∧Below w.heap.size w wr) (fun i _=>xs.length - (intOf i).toNat)
 case atStart=>exact ⟨0,by omega,rfl,HR,ZX _ _⟩
 case round =>
  clear HR;obtain ⟨k,hk,rfl,Hr,hb⟩:=hrel;by_cases hlt:k < xs.length
  ·obtain ⟨x,hx⟩:∃ x,xs[k]? =some x:=⟨_,Z8 hlt⟩;obtain ⟨blk,off,rfl,hbl,c0,c1⟩:=(HS.out wr hb).qx k x hx;have Hb1:Hid (Below w.heap.size w (wr.alloc (.cells #[.int .i64 x.k,.string x.t] 46))):=hb.trans ((ZX _ _).alloc hb.size _);have gq:LV _ wr.heap.size _ _:=LV.new wr wr.heap.size #[.int .i64 x.k,.string x.t] 46 rfl;have Hc:=Z9 (afU x.k x.t _ (HT.out x (Z7 hx)) (HM.out _ Hb1.out));obtain ⟨F,HF⟩:∃ F,Hid (L.iq x.k x.t=F):=⟨_,Z9 rfl⟩;obtain ⟨B,HB⟩:∃ B,Hid (rX (lu xs k) x=B):=⟨_,Z9 rfl⟩;have Hs:Hid ((if rY F B≠0 then rY F B else qQ (some x) (xs.drop (k + 1)))=R):=by show _=_;rw [← Hr.out,Yw hx,HF.out,HB.out]
   rw [HF.out] at Hc;have Hx:=Z9 hx;clear Hr HF hx;go_wp2_with fail
   refine (Hc.out).mono ?_;rintro e w2 ⟨rfl,hl2⟩;have Hb2:Hid (Below w.heap.size w w2):=Hb1.out.trans (hl2.mono Hb1.out.size);by_cases rE:F=0
   ·subst rE;have pG:Hid ((if (if B=true then (7:Int) else 0)≠0 then (if B=true then (7:Int) else 0) else qQ (some x) (xs.drop (k + 1)))=R):=Hs.out;have fD:=LV.dQ gq hl2 gq.lt;clear Hs Hc hl2 Hb1 c0 c1 gq;go_upto_region 7 with fail
    obtain ⟨Y,hY⟩:∃ Y,Y=wr.heap.size:=⟨_,rfl⟩;rw [← hY] at fD ⊢;clear hY;go_cut [29] (fun Q9 wx=>Q9=.bool B∧Below w2.heap.size w2 wx)
    case first =>
     by_cases hk0:k=0
     ·subst hk0;obtain rfl:false=B:=HB.out;go_wp2_with fail
      refine dF (fun w'=>Below w2.heap.size w2 w') [(true,0),(true,1),(true,2),(true,3),(true,4),(true,5),(true,6),(true,7),(true,8),(false,9),(true,10),(true,11)] (by kernel_rfl) (by kernel_rfl) (fun w' hd=>hd.below _) (fun KK aF wd aW=>?_);have hC:=aW.below w2.heap.size;clear aW;refine aA ?_;refine aV rfl (fun K hK=>?_) hC;go_wp2_with fail
      refine ⟨hC,?_⟩;refine aA ?_;refine dG ?_;simp only [Exit.then];refine aF _ _ ?_;go_wp2_with fail
      go_meet;exact ⟨rfl,hC⟩
     ·obtain ⟨q,rfl⟩:∃ q,k=q + 1:=⟨k - 1,by omega⟩;obtain ⟨y,hp⟩:∃ y,xs[q]? =some y:=⟨_,Z8 (by omega)⟩;have HB2:Hid (decide (jA x.k x.t y.k y.t≤0)=B):=by
       show _=_;rw [← HB.out,nT xs q y hp];rfl
      obtain ⟨_,_,e,hblk2,e0,e1⟩:=(HS.out w2 Hb2.out).qx q y hp;cases e;have Hld:=Z9 (fun w' (h:Below w2.heap.size w2 w')=>gU ((h.cell (p:=⟨blk,off + q * 2,none⟩) hblk2).trans e0) ((h.cell (p:=⟨blk,off + q * 2 + 1,none⟩) hblk2).trans e1));clear HB hp e0 e1;have hk1:decide ((0:Int) < ((q + 1:Nat):Int))=true:=by simp
      have hk2:((q + 1:Nat):Int) - 1=(q:Int):=by omega
      go_wp2_with fail
      refine dF (fun w'=>Below w2.heap.size w2 w') [(true,0),(true,1),(true,2),(true,3),(true,4),(true,5),(true,6),(true,7),(true,8),(false,9),(true,10),(true,11)] (by kernel_rfl) (by kernel_rfl) (fun w' hd=>hd.below _) (fun KK aF wd aW=>?_);have hC:=aW.below w2.heap.size;clear aW;refine aA ?_;refine bV (.agg #[.int .i64 x.k,.string x.t]) rfl rfl rfl (fun w' h=>gU ((LV.dQ fD h fD.lt).cell 0 _ rfl) ((LV.dQ fD h fD.lt).cell 1 _ rfl)) ?_;refine aA ?_;refine bV (.agg #[.int .i64 y.k,.string y.t]) rfl rfl rfl (fun w' h=>Hld.out w' h) ?_;refine aA ?_;refine aV rfl (fun K hK=>?_) hC;have Ho:=Z9 (Rf x.k y.k x.t y.t wd);go_wp2_with fail
      refine (Ho.out).mono ?_;rintro e w3 ⟨rfl,hl3⟩;have dB:=hC.trans (hl3.mono hC.size);clear Ho hl3;generalize jA x.k x.t y.k y.t=o at *;go_wp2_with fail
      refine ⟨dB,?_⟩;refine aA ?_;refine dG ?_;simp only [Exit.then];refine aF _ _ ?_;go_wp2_with fail
      go_meet;exact ⟨by rw [← HB2.out],dB⟩
    case rest =>
     obtain ⟨rfl,hbc⟩:=hcut;have Hb3:Hid (Below w.heap.size w wc):=Hb2.out.trans (hbc.mono Hb2.out.size);clear HB hbc Hb2 fD;cases B
     ·have Hn:Hid (qQ (some x) (xs.drop (k + 1))=R):=pG.out;go_wp2_with fail
      go_roundw
      case rel=>exact ⟨k + 1,by omega,by go_num,by rw [nT xs k x Hx.out];exact Hn,Hb3.out⟩
      case measure=>simp [intOf];omega
     ·have Hn:Hid (7=R):=pG.out;go_wp2_with fail
      go_ret;exact ⟨aH Hn.out,Hb3.out⟩
   ·have hF':(F != 0)=true:=by simpa using rE
    have Hn:Hid (F=R):=uZ Hs.out (by simp [rY,rE]) rE;go_wp2_with fail
    go_ret;exact ⟨aH Hn.out,Hb2.out⟩
  ·go_wp2_with fail
   go_ret;exact ⟨aH (by rw [← Hr.out,ZJ (by omega)];rfl),hb⟩
theorem afV (N:Nat→Prop)(A B:Option Addr)(c d:Nat)(t:ak)(last:Int)(w:World)(hI:Sl aO N w A t.ids)(hS:Sl bK N w B t.aB)(hok:FQ t)(hT:Tabs w)(hM:gG w) :
  Calls Tryz.prog 82 #[.agg (aS t A c B d),.int .i64 last] w fun e w'=>e=.returned (.int .i64 (gJ t last))∧Below w.heap.size w w':=by
 have hb0:Below w.heap.size w (w.alloc (.cells (aS t A c B d) 58)):=(ZX _ _).alloc (Z5 _) _;have dO:=LV.new w w.heap.size (aS t A c B d) 58 rfl;obtain ⟨R,HR⟩:∃ R,Hid (gJ t last=R):=⟨_,Z9 rfl⟩;rw [HR.out];obtain ⟨D1,HD1⟩:∃ D,Hid (decide (1≤t.no∧t.no≤1000000)=D):=⟨_,Z9 rfl⟩;obtain ⟨D2,HD2⟩:∃ D,Hid (decide (0≤t.at'∧t.at'≤4321439)=D):=⟨_,Z9 rfl⟩;obtain ⟨O,HO⟩:∃ O,Hid (decide (t.no≤last)=O):=⟨_,Z9 rfl⟩;obtain ⟨K,HK⟩:∃ K,Hid (L.isKey t.src=K):=⟨_,Z9 rfl⟩;obtain ⟨F,HF⟩:∃ F,Hid (tV t.ids=F):=⟨_,Z9 rfl⟩;obtain ⟨G,HG⟩:∃ G,Hid (nM t.aB=G):=⟨_,Z9 rfl⟩;unfold gJ at HR;rw [HD1.out,HD2.out,HO.out,HK.out,HF.out,HG.out] at HR;have C1:Hid (∀ w,Calls Tryz.prog 53 #[.int .i64 t.no,.int .i64 1,.int .i64 1000000] w fun e w'=>e=.returned (.bool D1)∧w=w'):=fun w=>HD1.out ▸ nN t.no 1 1000000 w;have C2:Hid (∀ w,Calls Tryz.prog 53 #[.int .i64 t.at',.int .i64 0,.int .i64 4321439] w fun e w'=>e=.returned (.bool D2)∧w=w'):=fun w=>HD2.out ▸ nN t.at' 0 4321439 w;have C3:Hid (∀ w,Calls Tryz.prog 113 #[.string t.src] w fun e w'=>e=.returned (.bool K)∧w=w'):=fun w=>HK.out ▸ E5 t.src w (by have:=hok.sr;omega);have C4:Hid (∀ w',Below w.heap.size w w'→Calls Tryz.prog 144 #[.slice A t.ids.length c] w' fun e w''=>e=.returned (.int .i64 F)∧Below w'.heap.size w' w''):=fun w' h=>HF.out ▸ aae N A t.ids c w' (hI.aK h) hok.il hok.it (hM.below h);have C5:Hid (∀ w',Below w.heap.size w w'→Calls Tryz.prog 157 #[.slice B t.aB.length d] w' fun e w''=>e=.returned (.int .i64 G)∧Below w'.heap.size w' w''):=fun w' h=>HG.out ▸ afW N B t.aB d w' (hS.aK h) hok.fs (by have:=hok.fl;omega) (Utf8Tabs_below hT h)
 obtain ⟨n,hn⟩:∃ n,n=t.ids.length:=⟨_,rfl⟩;have hnl:n≤1000000:=by rw [hn];exact hok.il
 clear HD1 HD2 HF HG HK hI hS hok hT hM;have Hb0:=Z9 hb0;go_enter Tryz.func82,Tryz.ntmps82
 go_upto_region 1 with fail
 generalize w.alloc (.cells (aS t A c B d) 58)=w1 at *;obtain ⟨Y,hY⟩:∃ Y,Y=w.heap.size:=⟨_,rfl⟩;rw [← hY] at dO ⊢;have c0:w1.cell? ⟨Y,0,none⟩=some (.int .i64 t.no):=dO.cell 0 _ rfl;have c1:w1.cell? ⟨Y,1,none⟩=some (.int .i64 t.at'):=dO.cell 1 _ rfl;have c2:w1.cell? ⟨Y,2,none⟩=some (.string t.src):=dO.cell 2 _ rfl;have c3:w1.cell? ⟨Y,3,none⟩=some (.slice A n c):=by rw [hn];exact dO.cell 3 _ rfl
 rw [← hn] at C4 HR;clear hb0 hY hn;cases D1
 ·have Hn:Hid (1=R):=by show _=_;rw [← HR.out];simp [mQ]
  go_wp2_with fail
  refine (C1.out _).mono ?_;rintro e _ ⟨rfl,rfl⟩;go_wp2_with fail
  go_ret;exact ⟨aH Hn.out,Hb0.out⟩
 ·cases D2
  ·have Hn:Hid (1=R):=by show _=_;rw [← HR.out];simp [mQ]
   go_wp2_with fail
   refine (C1.out _).mono ?_;rintro e _ ⟨rfl,rfl⟩;go_wp2_with fail
   refine (C2.out _).mono ?_;rintro e _ ⟨rfl,rfl⟩;go_wp2_with fail
   go_ret;exact ⟨aH Hn.out,Hb0.out⟩
  ·cases O
   ·have hO:decide (t.no≤last)=false:=HO.out;cases K
    ·have Hn:Hid (5=R):=by show _=_;rw [← HR.out];simp [mQ]
     go_wp2_with fail
     refine (C1.out _).mono ?_;rintro e _ ⟨rfl,rfl⟩;go_wp2_with fail
     refine (C2.out _).mono ?_;rintro e _ ⟨rfl,rfl⟩;go_wp2_with fail
     refine (C3.out _).mono ?_;rintro e _ ⟨rfl,rfl⟩;go_wp2_with fail
     go_ret;exact ⟨aH Hn.out,Hb0.out⟩
    ·by_cases h0:n=0
     ·have Hn:Hid (3=R):=by show _=_;rw [← HR.out];simp [mQ,h0]
      subst h0;go_wp2_with fail
      refine (C1.out _).mono ?_;rintro e _ ⟨rfl,rfl⟩;go_wp2_with fail
      refine (C2.out _).mono ?_;rintro e _ ⟨rfl,rfl⟩;go_wp2_with fail
      refine (C3.out _).mono ?_;rintro e _ ⟨rfl,rfl⟩;go_wp2_with fail
      go_ret;exact ⟨aH Hn.out,Hb0.out⟩
     ·by_cases h10:10 < n
      ·have Hn:Hid (2=R):=by show _=_;rw [← HR.out];simp [mQ,h0,h10]
       go_wp2_with fail
       refine (C1.out _).mono ?_;rintro e _ ⟨rfl,rfl⟩;go_wp2_with fail
       refine (C2.out _).mono ?_;rintro e _ ⟨rfl,rfl⟩;go_wp2_with fail
       refine (C3.out _).mono ?_;rintro e _ ⟨rfl,rfl⟩;go_wp2_with fail
       go_ret;exact ⟨aH Hn.out,Hb0.out⟩
      ·have Hn:Hid ((if F≠0 then F else G)=R):=by show _=_;rw [← HR.out];simp [mQ,h0,h10]
       go_wp2_with fail
       refine (C1.out _).mono ?_;rintro e _ ⟨rfl,rfl⟩;go_wp2_with fail
       refine (C2.out _).mono ?_;rintro e _ ⟨rfl,rfl⟩;go_wp2_with fail
       refine (C3.out _).mono ?_;rintro e _ ⟨rfl,rfl⟩;go_wp2_with fail
       refine (C4.out w1 Hb0.out).mono ?_;rintro e w2 ⟨rfl,hl2⟩;have jU:=LV.dQ dO hl2 dO.lt;have Hb2:Hid (Below w.heap.size w w2):=Hb0.out.trans (hl2.mono Hb0.out.size);clear c0 c1 c2 c3 dO hl2;by_cases hF:F=0
       ·have lq:=Z9 (tX Hn.out hF);subst hF;have c4:w2.cell? ⟨Y,4,none⟩=some (.slice B t.aB.length d):=jU.cell 4 _ rfl;go_wp2_with fail
        refine (C5.out w2 Hb2.out).mono ?_;rintro e w3 ⟨rfl,hl3⟩;go_wp2_with fail
        go_ret;exact ⟨aH lq.out,Hb2.out.trans (hl3.mono Hb2.out.size)⟩
       ·have lq:=Z9 (yF Hn.out hF);have hF':(F != 0)=true:=by simpa using hF
        go_wp2_with fail
        go_ret;exact ⟨aH lq.out,Hb2.out⟩
   ·have hO:decide (t.no≤last)=true:=HO.out;have Hn:Hid (7=R):=by show _=_;rw [← HR.out];simp [mQ]
    go_wp2_with fail
    refine (C1.out _).mono ?_;rintro e _ ⟨rfl,rfl⟩;go_wp2_with fail
    refine (C2.out _).mono ?_;rintro e _ ⟨rfl,rfl⟩;go_wp2_with fail
    go_ret;exact ⟨aH Hn.out,Hb0.out⟩
theorem afX (N:Nat→Prop)(A:Option Addr)(xs:List ak)(c:Nat)(w:World)(hS:Sl fU N w A xs)(hok:zZ xs)(hT:Tabs w)(hM:gG w) :
  Calls Tryz.prog 112 #[.slice A xs.length c] w fun e w'=>e=.returned (.int .i64 (iy xs))∧Below w.heap.size w w':=by
 have HS:=Z9 (fun w' (h:Below w.heap.size w w')=>hS.aK h);have xP:=Z9 (fun w' (h:Below w.heap.size w w')=>(⟨Utf8Tabs_below hT h,hM.below h⟩:Tabs w'∧gG w'));have kE:=Z9 hok.ok;have hln:=hok.len;clear hS hok hT hM;obtain ⟨R,HR⟩:∃ R,Hid (iy xs=R):=⟨_,Z9 rfl⟩;rw [HR.out];by_cases h20:2000 < xs.length
 ·go_enter Tryz.func112,Tryz.ntmps112
  go_wp2_with fail
  go_ret;exact ⟨aH (by rw [← HR.out,iy,if_pos h20]),ZX _ _⟩
 ·have HR2:Hid (lT 0 xs=R):=by show _=_;rw [← HR.out,iy,if_neg h20]
  clear HR;go_enter Tryz.func112,Tryz.ntmps112
  go_wp2_with fail
  go_loopw [3,12] (fun s i wr=>∃ (k:Nat) (last:Int),k≤xs.length∧i=.int .i64 k∧s=.int .i64 last∧Hid (lT last (xs.drop k)=R)∧Below w.heap.size w wr) (fun _ i _=>xs.length - (intOf i).toNat)
  case atStart=>exact ⟨0,0,ZN _,rfl,rfl,HR2.out,ZX _ _⟩
  case round =>
   clear HR2;obtain ⟨k,last,hk,rfl,rfl,Hr,hbl⟩:=hrel;by_cases hlt:k < xs.length
   ·obtain ⟨t,ht⟩:∃ t,xs[k]? =some t:=⟨_,Z8 hlt⟩;obtain ⟨blk,off,Ai,ci,Af,cf,rfl,hblk,d0,d1,d2,d3,d4,hi,hf⟩:=(HS.out wr hbl).aC k t ht;have hb0:Below wr.heap.size wr (wr.alloc (.cells (aS t Ai ci Af cf) 58)):=(ZX _ _).alloc (Z5 _) _;have Hb1:Hid (Below w.heap.size w (wr.alloc (.cells (aS t Ai ci Af cf) 58))):=hbl.alloc hbl.size _;have HC:=Z9 (afV N Ai Af ci cf t last _ (hi.aK hb0) (hf.aK hb0) (kE.out t (Z7 ht)) (xP.out _ Hb1.out).1 (xP.out _ Hb1.out).2);obtain ⟨F,HF⟩:∃ F,Hid (gJ t last=F):=⟨_,Z9 rfl⟩;have Hs:Hid ((if F≠0 then F else lT t.no (xs.drop (k + 1)))=R):=by show _=_;rw [← Hr.out,Yx ht,HF.out]
    rw [HF.out] at HC;have fD:LV _ wr.heap.size _ _:=LV.new wr wr.heap.size (aS t Ai ci Af cf) 58 rfl;clear hi hf hb0 Hr HF;go_wp2_with fail
    refine (HC.out).mono ?_;rintro e w2 ⟨rfl,hl2⟩;have jU:=LV.dQ fD hl2 fD.lt;have Hb2:Hid (Below w.heap.size w w2):=Hb1.out.trans (hl2.mono Hb1.out.size);clear HC fD hl2 d0 d1 d2 d3 d4;by_cases hF:F=0
    ·have Hn:=Z9 (tX Hs.out hF);subst hF;have c0:=jU.cell 0 _ rfl;go_wp2_with fail
     go_roundw
     case rel=>exact ⟨k + 1,t.no,by omega,by go_num,rfl,Hn.out,Hb2.out⟩
     case measure=>simp [intOf];omega
    ·have Hn:=Z9 (yF Hs.out hF);have hF':(F != 0)=true:=by simpa using hF
     go_wp2_with fail
     go_ret;exact ⟨aH Hn.out,Hb2.out⟩
   ·go_wp2_with fail
    go_ret;exact ⟨aH (by rw [← Hr.out,ZJ (by omega)];rfl),hbl⟩
end
section
open Go Go.RowKit
theorem afY {prev:Option ah}{x:ah}:rX prev x=prev.any (fun p=>decide (0≤dA p x)):=by
 unfold rX;cases prev with
 | none=>rfl
 | some p =>
  simp only [Option.any_some,decide_eq_decide];have h1:=nS.anti x p;have h2:=nS.anti p x;omega
theorem aaf (N:Nat→Prop)(A:Option Addr)(xs:List ah)(c:Nat)(w:World)(hS:Sl aO N w A xs)(hl:xs.length≤1000000)(ht:∀ x∈xs,x.t.size≤1000000)(hM:gG w) :
  Calls Tryz.prog 73 #[.slice A xs.length c] w fun e w'=>e=.returned (.int .i64 (tV xs))∧Below w.heap.size w w':=by
 have HS:=Z9 (fun w' (h:Below w.heap.size w w')=>hS.aK h);have HM:=Z9 (fun w' (h:Below w.heap.size w w')=>hM.below h);have HT:=Z9 ht;obtain ⟨R,HR⟩:∃ R,Hid (tV xs=R):=⟨_,Z9 rfl⟩;rw [HR.out];clear hS hM ht;go_enter Tryz.func73,Tryz.ntmps73
 go_wp2_with fail
 go_loopw [8] (fun i wr=>∃ k:Nat,k≤xs.length∧i=.int .i64 k∧Hid (qQ (lu xs k) (xs.drop k)=R)∧Below w.heap.size w wr) (fun i _=>xs.length - (intOf i).toNat)
 case atStart=>exact ⟨0,by omega,rfl,HR,ZX _ _⟩
 case round =>
  clear HR;obtain ⟨k,hk,rfl,Hr,hb⟩:=hrel;by_cases hlt:k < xs.length
  ·obtain ⟨x,hx⟩:∃ x,xs[k]? =some x:=⟨_,Z8 hlt⟩;obtain ⟨blk,off,rfl,hbl,c0,c1⟩:=(HS.out wr hb).qx k x hx;have Hb1:Hid (Below w.heap.size w (wr.alloc (.cells #[.int .i64 x.k,.string x.t] 46))):=hb.trans ((ZX _ _).alloc hb.size _);have gq:LV _ wr.heap.size _ _:=LV.new wr wr.heap.size #[.int .i64 x.k,.string x.t] 46 rfl;have Hc:=Z9 (afZ x.k x.t _ (HT.out x (Z7 hx)) (HM.out _ Hb1.out));obtain ⟨F,HF⟩:∃ F,Hid (L.iq x.k x.t=F):=⟨_,Z9 rfl⟩;obtain ⟨B,HB⟩:∃ B,Hid (rX (lu xs k) x=B):=⟨_,Z9 rfl⟩;have Hs:Hid ((if rY F B≠0 then rY F B else qQ (some x) (xs.drop (k + 1)))=R):=by show _=_;rw [← Hr.out,Yw hx,HF.out,HB.out]
   rw [HF.out] at Hc;have Hx:=Z9 hx;clear Hr HF hx;go_wp2_with fail
   refine (Hc.out).mono ?_;rintro e w2 ⟨rfl,hl2⟩;have Hb2:Hid (Below w.heap.size w w2):=Hb1.out.trans (hl2.mono Hb1.out.size);by_cases rE:F=0
   ·subst rE;have pG:Hid ((if (if B=true then (7:Int) else 0)≠0 then (if B=true then (7:Int) else 0) else qQ (some x) (xs.drop (k + 1)))=R):=Hs.out;have fD:=LV.dQ gq hl2 gq.lt;clear Hs Hc hl2 Hb1 c0 c1 gq;go_upto_region 7 with fail
    obtain ⟨Y,hY⟩:∃ Y,Y=wr.heap.size:=⟨_,rfl⟩;rw [← hY] at fD ⊢;clear hY;go_cut [29] (fun Q9 wx=>Q9=.bool B∧Below w2.heap.size w2 wx)
    case first =>
     by_cases hk0:k=0
     ·subst hk0;obtain rfl:false=B:=HB.out;go_wp2_with fail
      refine dF (fun w'=>Below w2.heap.size w2 w') [(true,0),(true,1),(true,2),(true,3),(true,4),(true,5),(true,6),(true,7),(true,8),(false,9),(true,10),(true,11)] (by kernel_rfl) (by kernel_rfl) (fun w' hd=>hd.below _) (fun KK aF wd aW=>?_);have hC:=aW.below w2.heap.size;clear aW;refine aA ?_;refine aV rfl (fun K hK=>?_) hC;go_wp2_with fail
      refine ⟨hC,?_⟩;refine aA ?_;refine dG ?_;simp only [Exit.then];refine aF _ _ ?_;go_wp2_with fail
      go_meet;exact ⟨rfl,hC⟩
     ·obtain ⟨q,rfl⟩:∃ q,k=q + 1:=⟨k - 1,by omega⟩;obtain ⟨y,hp⟩:∃ y,xs[q]? =some y:=⟨_,Z8 (by omega)⟩;have HB2:Hid (decide (0≤jA y.k y.t x.k x.t)=B):=by
       show _=_;rw [← HB.out,nT xs q y hp];rw [afY];rfl
      obtain ⟨_,_,e,hblk2,e0,e1⟩:=(HS.out w2 Hb2.out).qx q y hp;cases e;have Hld:=Z9 (fun w' (h:Below w2.heap.size w2 w')=>gU ((h.cell (p:=⟨blk,off + q * 2,none⟩) hblk2).trans e0) ((h.cell (p:=⟨blk,off + q * 2 + 1,none⟩) hblk2).trans e1));clear HB hp e0 e1;have hk1:decide ((0:Int) < ((q + 1:Nat):Int))=true:=by simp
      have hk2:((q + 1:Nat):Int) - 1=(q:Int):=by omega
      go_wp2_with fail
      refine dF (fun w'=>Below w2.heap.size w2 w') [(true,0),(true,1),(true,2),(true,3),(true,4),(true,5),(true,6),(true,7),(true,8),(false,9),(true,10),(true,11)] (by kernel_rfl) (by kernel_rfl) (fun w' hd=>hd.below _) (fun KK aF wd aW=>?_);have hC:=aW.below w2.heap.size;clear aW;refine aA ?_;refine bV (.agg #[.int .i64 y.k,.string y.t]) rfl rfl rfl (fun w' h=>Hld.out w' h) ?_;refine aA ?_;refine bV (.agg #[.int .i64 x.k,.string x.t]) rfl rfl rfl (fun w' h=>gU ((LV.dQ fD h fD.lt).cell 0 _ rfl) ((LV.dQ fD h fD.lt).cell 1 _ rfl)) ?_;refine aA ?_;refine aV rfl (fun K hK=>?_) hC;have Ho:=Z9 (af0 y.k x.k y.t x.t wd);go_wp2_with fail
      refine (Ho.out).mono ?_;rintro e w3 ⟨rfl,hl3⟩;have dB:=hC.trans (hl3.mono hC.size);clear Ho hl3;generalize jA y.k y.t x.k x.t=o at *;go_wp2_with fail
      refine ⟨dB,?_⟩;refine aA ?_;refine dG ?_;simp only [Exit.then];refine aF _ _ ?_;go_wp2_with fail
      go_meet;exact ⟨by rw [← HB2.out],dB⟩
    case rest =>
     obtain ⟨rfl,hbc⟩:=hcut;have Hb3:Hid (Below w.heap.size w wc):=Hb2.out.trans (hbc.mono Hb2.out.size);clear HB hbc Hb2 fD;cases B
     ·have Hn:Hid (qQ (some x) (xs.drop (k + 1))=R):=pG.out;go_wp2_with fail
      go_roundw
      case rel=>exact ⟨k + 1,by omega,by go_num,by rw [nT xs k x Hx.out];exact Hn,Hb3.out⟩
      case measure=>simp [intOf];omega
     ·have Hn:Hid (7=R):=pG.out;go_wp2_with fail
      go_ret;exact ⟨aH Hn.out,Hb3.out⟩
   ·have hF':(F != 0)=true:=by simpa using rE
    have Hn:Hid (F=R):=uZ Hs.out (by simp [rY,rE]) rE;go_wp2_with fail
    go_ret;exact ⟨aH Hn.out,Hb2.out⟩
  ·go_wp2_with fail
   go_ret;exact ⟨aH (by rw [← Hr.out,ZJ (by omega)];rfl),hb⟩
theorem af2 (Y:Nat)(t:ak)(N:Nat→Prop)(A:Option Addr)(c:Nat)(B:Option Addr)(d:Nat)(w:World)(hY:LV w Y (aS t A c B d) 58)(hS:Sl aO N w A t.ids)(hok:FQ t)(hM:gG w) :
  Calls Tryz.prog 161 #[.pointer (some ⟨Y,0,none⟩)] w fun e w'=>e=.returned (.int .i64 (tV t.ids))∧Below w.heap.size w w':=by
 have c3:w.cell? ⟨Y,3,none⟩=some (.slice A t.ids.length c):=hY.cell 3 _ rfl;have Hc:=Z9 (aaf N A t.ids c w hS hok.il hok.it hM);clear hS hok hM;go_enter Tryz.func161,Tryz.ntmps161
 go_wp2_with fail
 refine (Hc.out).mono ?_;rintro e w1 ⟨rfl,hl1⟩;go_wp2_with fail
 go_ret;exact ⟨rfl,hl1⟩
theorem af4 (Y:Nat)(t:ak)(N:Nat→Prop)(A:Option Addr)(c:Nat)(B:Option Addr)(d:Nat)(w:World)(hY:LV w Y (aS t A c B d) 58)(hS:Sl bK N w B t.aB)(hok:FQ t)(hT:Tabs w) :
  Calls Tryz.prog 162 #[.pointer (some ⟨Y,0,none⟩)] w fun e w'=>e=.returned (.int .i64 (nM t.aB))∧Below w.heap.size w w':=by
 have c4:w.cell? ⟨Y,4,none⟩=some (.slice B t.aB.length d):=hY.cell 4 _ rfl;have Hc:=Z9 (af5 N B t.aB d w hS hok.fs (by have:=hok.fl;omega) hT);clear hS hok hT;go_enter Tryz.func162,Tryz.ntmps162
 go_wp2_with fail
 refine (Hc.out).mono ?_;rintro e w1 ⟨rfl,hl1⟩;go_wp2_with fail
 go_ret;exact ⟨rfl,hl1⟩
theorem af6 (N:Nat→Prop)(A B:Option Addr)(c d:Nat)(t:ak)(last:Int)(w:World)(hI:Sl aO N w A t.ids)(hS:Sl bK N w B t.aB)(hok:FQ t)(hT:Tabs w)(hM:gG w) :
  Calls Tryz.prog 85 #[.agg (aS t A c B d),.int .i64 last] w fun e w'=>e=.returned (.int .i64 (gJ t last))∧Below w.heap.size w w':=by
 have hb0:Below w.heap.size w (w.alloc (.cells (aS t A c B d) 58)):=(ZX _ _).alloc (Z5 _) _;have dO:=LV.new w w.heap.size (aS t A c B d) 58 rfl;have HI:=Z9 hI;have HS:=Z9 hS;have HT:=Z9 hT;have HM:=Z9 hM;have kE:=Z9 hok;obtain ⟨R,HR⟩:∃ R,Hid (gJ t last=R):=⟨_,Z9 rfl⟩;rw [HR.out];obtain ⟨D1,HD1⟩:∃ D,Hid (decide (1≤t.no∧t.no≤1000000)=D):=⟨_,Z9 rfl⟩;obtain ⟨D2,HD2⟩:∃ D,Hid (decide (0≤t.at'∧t.at'≤4321439)=D):=⟨_,Z9 rfl⟩;obtain ⟨O,HO⟩:∃ O,Hid (decide (t.no≤last)=O):=⟨_,Z9 rfl⟩;obtain ⟨K,HK⟩:∃ K,Hid (L.isKey t.src=K):=⟨_,Z9 rfl⟩;unfold gJ at HR;rw [HD1.out,HD2.out,HO.out,HK.out] at HR;have C1:Hid (∀ w,Calls Tryz.prog 62 #[.int .i64 t.no,.int .i64 1,.int .i64 1000000] w fun e w'=>e=.returned (.bool D1)∧w=w'):=fun w=>HD1.out ▸ iY t.no 1 1000000 w;have C2:Hid (∀ w,Calls Tryz.prog 62 #[.int .i64 t.at',.int .i64 0,.int .i64 4321439] w fun e w'=>e=.returned (.bool D2)∧w=w'):=fun w=>HD2.out ▸ iY t.at' 0 4321439 w;have C3:Hid (∀ w,Calls Tryz.prog 61 #[.string t.src] w fun e w'=>e=.returned (.bool K)∧Below w.heap.size w w'):=fun w=>HK.out ▸ E8 t.src w (by have:=hok.sr;omega);obtain ⟨n,hn⟩:∃ n,n=t.ids.length:=⟨_,rfl⟩;have hnl:n≤1000000:=by rw [hn];exact hok.il
 clear HD1 HD2 HK hI hS hok hT hM;have Hb0:=Z9 hb0;have Hn0:=Z9 hn;go_enter Tryz.func85,Tryz.ntmps85
 go_upto_region 1 with fail
 generalize w.alloc (.cells (aS t A c B d) 58)=w1 at *;obtain ⟨Y,hY⟩:∃ Y,Y=w.heap.size:=⟨_,rfl⟩;rw [← hY] at dO ⊢;have c0:w1.cell? ⟨Y,0,none⟩=some (.int .i64 t.no):=dO.cell 0 _ rfl;have c1:w1.cell? ⟨Y,1,none⟩=some (.int .i64 t.at'):=dO.cell 1 _ rfl;have c2:w1.cell? ⟨Y,2,none⟩=some (.string t.src):=dO.cell 2 _ rfl;rw [← hn] at HR;clear hb0 hY hn;cases D1
 ·have Hn:Hid (1=R):=by show _=_;rw [← HR.out];simp [mQ]
  go_wp2_with fail
  refine (C1.out _).mono ?_;rintro e _ ⟨rfl,rfl⟩;go_wp2_with fail
  go_ret;exact ⟨aH Hn.out,Hb0.out⟩
 ·cases D2
  ·have Hn:Hid (1=R):=by show _=_;rw [← HR.out];simp [mQ]
   go_wp2_with fail
   refine (C1.out _).mono ?_;rintro e _ ⟨rfl,rfl⟩;go_wp2_with fail
   refine (C2.out _).mono ?_;rintro e _ ⟨rfl,rfl⟩;go_wp2_with fail
   go_ret;exact ⟨aH Hn.out,Hb0.out⟩
  ·cases O
   ·have hO:decide (t.no≤last)=false:=HO.out;go_wp2_with fail
    refine (C1.out _).mono ?_;rintro e _ ⟨rfl,rfl⟩;go_wp2_with fail
    refine (C2.out _).mono ?_;rintro e _ ⟨rfl,rfl⟩;go_wp2_with fail
    refine (C3.out w1).mono ?_;rintro e w2 ⟨rfl,hl2⟩;have Hb2:Hid (Below w.heap.size w w2):=Hb0.out.trans (hl2.mono Hb0.out.size);have jU:=LV.dQ dO hl2 dO.lt;have c3:w2.cell? ⟨Y,3,none⟩=some (.slice A n c):=by rw [Hn0.out];exact jU.cell 3 _ rfl
    clear hl2 C1 C2 C3 Hb0 c0 c1 c2 dO;cases K
    ·have Hn:Hid (5=R):=by show _=_;rw [← HR.out];simp [mQ]
     go_wp2_with fail
     go_ret;exact ⟨aH Hn.out,Hb2.out⟩
    ·by_cases h0:n=0
     ·have Hn:Hid (3=R):=by show _=_;rw [← HR.out];simp [mQ,h0]
      subst h0;go_wp2_with fail
      go_ret;exact ⟨aH Hn.out,Hb2.out⟩
     ·by_cases h10:10 < n
      ·have Hn:Hid (2=R):=by show _=_;rw [← HR.out];simp [mQ,h0,h10]
       go_wp2_with fail
       go_ret;exact ⟨aH Hn.out,Hb2.out⟩
      ·have Hn:Hid (lQ [tV t.ids,nM t.aB]=R):=by
        show _=_;rw [← HR.out];simp only [lQ,mQ];simp only [Bool.and_self,Bool.true_eq_false,YP,if_false,h0,h10];split <;> simp_all
       have hb4:Below w2.heap.size w2 (w2.alloc (.cells #[.func (.func 161) #[] #[.pointer (some ⟨Y,0,none⟩)],.func (.func 162) #[] #[.pointer (some ⟨Y,0,none⟩)]] 153)):=(ZX _ _).alloc (Z5 _) _;have Hb4:Hid (Below w.heap.size w (w2.alloc (.cells #[.func (.func 161) #[] #[.pointer (some ⟨Y,0,none⟩)],.func (.func 162) #[] #[.pointer (some ⟨Y,0,none⟩)]] 153))):=Hb2.out.alloc Hb2.out.size _;have gq:=LV.new w2 w2.heap.size #[.func (.func 161) #[] #[.pointer (some ⟨Y,0,none⟩)],.func (.func 162) #[] #[.pointer (some ⟨Y,0,none⟩)]] 153 rfl;have fD:=LV.dQ jU hb4 jU.lt;clear hb4;have Hf:=Z9 (first_any w2.heap.size 2 [⟨161,#[.pointer (some ⟨Y,0,none⟩)],tV t.ids⟩,⟨162,#[.pointer (some ⟨Y,0,none⟩)],nM t.aB⟩] _ rfl gq (by simp)
        (fun c hc=>by
         rcases List.mem_cons.1 hc with rfl | hc
         ·exact enters_of Tryz.func161 (by kernel_rfl) rfl
         ·rw [List.mem_singleton.1 hc];exact enters_of Tryz.func162 (by kernel_rfl) rfl)
        (fun c' hc w' hw=>by
         have hB:Below w.heap.size w w':=Hb4.out.trans (hw.mono Hb4.out.size);have lvw:=LV.dQ fD hw fD.lt;rcases List.mem_cons.1 hc with rfl | hc
         ·exact af2 Y t N A c B d w' lvw (HI.out.aK hB) kE.out (HM.out.below hB)
         ·rw [List.mem_singleton.1 hc];exact af4 Y t N A c B d w' lvw (HS.out.aK hB) kE.out (Utf8Tabs_below HT.out hB)))
       go_wp2_with fail
       refine (Hf.out).mono ?_;rintro e w5 ⟨rfl,hl5⟩;go_wp2_with fail
       go_ret;exact ⟨aH Hn.out,Hb4.out.trans (hl5.mono Hb4.out.size)⟩
   ·have hO:decide (t.no≤last)=true:=HO.out;have Hn:Hid (7=R):=by show _=_;rw [← HR.out];simp [mQ]
    go_wp2_with fail
    refine (C1.out _).mono ?_;rintro e _ ⟨rfl,rfl⟩;go_wp2_with fail
    refine (C2.out _).mono ?_;rintro e _ ⟨rfl,rfl⟩;go_wp2_with fail
    go_ret;exact ⟨aH Hn.out,Hb0.out⟩
theorem FT (N:Nat→Prop)(A:Option Addr)(xs:List ak)(c:Nat)(w:World)(hS:Sl fU N w A xs)(hok:zZ xs)(hT:Tabs w)(hM:gG w) :
  Calls Tryz.prog 28 #[.slice A xs.length c] w fun e w'=>e=.returned (.int .i64 (iy xs))∧Below w.heap.size w w':=by
 have HS:=Z9 (fun w' (h:Below w.heap.size w w')=>hS.aK h);have xP:=Z9 (fun w' (h:Below w.heap.size w w')=>(⟨Utf8Tabs_below hT h,hM.below h⟩:Tabs w'∧gG w'));have kE:=Z9 hok.ok;have hln:=hok.len;clear hS hok hT hM;obtain ⟨R,HR⟩:∃ R,Hid (iy xs=R):=⟨_,Z9 rfl⟩;rw [HR.out];by_cases h20:2000 < xs.length
 ·go_enter Tryz.func28,Tryz.ntmps28
  go_wp2_with fail
  go_ret;exact ⟨aH (by rw [← HR.out,iy,if_pos h20]),ZX _ _⟩
 ·have HR2:Hid (lT 0 xs=R):=by show _=_;rw [← HR.out,iy,if_neg h20]
  clear HR;go_enter Tryz.func28,Tryz.ntmps28
  go_wp2_with fail
  go_loopw [3,12] (fun s i wr=>∃ (k:Nat) (last:Int),k≤xs.length∧i=.int .i64 k∧s=.int .i64 last∧Hid (lT last (xs.drop k)=R)∧Below w.heap.size w wr) (fun _ i _=>xs.length - (intOf i).toNat)
  case atStart=>exact ⟨0,0,ZN _,rfl,rfl,HR2.out,ZX _ _⟩
  case round =>
   clear HR2;obtain ⟨k,last,hk,rfl,rfl,Hr,hbl⟩:=hrel;by_cases hlt:k < xs.length
   ·obtain ⟨t,ht⟩:∃ t,xs[k]? =some t:=⟨_,Z8 hlt⟩;obtain ⟨blk,off,Ai,ci,Af,cf,rfl,hblk,d0,d1,d2,d3,d4,hi,hf⟩:=(HS.out wr hbl).aC k t ht;have hb0:Below wr.heap.size wr (wr.alloc (.cells (aS t Ai ci Af cf) 58)):=(ZX _ _).alloc (Z5 _) _;have Hb1:Hid (Below w.heap.size w (wr.alloc (.cells (aS t Ai ci Af cf) 58))):=hbl.alloc hbl.size _;have HC:=Z9 (af6 N Ai Af ci cf t last _ (hi.aK hb0) (hf.aK hb0) (kE.out t (Z7 ht)) (xP.out _ Hb1.out).1 (xP.out _ Hb1.out).2);obtain ⟨F,HF⟩:∃ F,Hid (gJ t last=F):=⟨_,Z9 rfl⟩;have Hs:Hid ((if F≠0 then F else lT t.no (xs.drop (k + 1)))=R):=by show _=_;rw [← Hr.out,Yx ht,HF.out]
    rw [HF.out] at HC;have fD:LV _ wr.heap.size _ _:=LV.new wr wr.heap.size (aS t Ai ci Af cf) 58 rfl;clear hi hf hb0 Hr HF;go_wp2_with fail
    refine (HC.out).mono ?_;rintro e w2 ⟨rfl,hl2⟩;have jU:=LV.dQ fD hl2 fD.lt;have Hb2:Hid (Below w.heap.size w w2):=Hb1.out.trans (hl2.mono Hb1.out.size);clear HC fD hl2 d0 d1 d2 d3 d4;by_cases hF:F=0
    ·have Hn:=Z9 (tX Hs.out hF);subst hF;have c0:=jU.cell 0 _ rfl;go_wp2_with fail
     go_roundw
     case rel=>exact ⟨k + 1,t.no,by omega,by go_num,rfl,Hn.out,Hb2.out⟩
     case measure=>simp [intOf];omega
    ·have Hn:=Z9 (yF Hs.out hF);have hF':(F != 0)=true:=by simpa using hF
     go_wp2_with fail
     go_ret;exact ⟨aH Hn.out,Hb2.out⟩
   ·go_wp2_with fail
    go_ret;exact ⟨aH (by rw [← Hr.out,ZJ (by omega)];rfl),hbl⟩
end
section
open Go Go.RowKit
abbrev hasB (seen:List ByteArray)(x:ByteArray):Bool:=seen.any (fun y=>y.toList==x.toList)
theorem af7 (N:Nat→Prop)(A:Option Addr)(nm:ByteArray)(how:Int)(xs:List ByteArray)(c:Nat)(w:World)(hS:Sl fB N w A xs)(hc:xs.length≤c)(hl:xs.length≤1000000)(ht:∀ x∈xs,x.size≤1000000) :
  Calls Tryz.prog 220 #[.agg #[.string nm,.int .i64 how,.slice A xs.length c]] w fun e w'=>e=.returned (.int .i64 (wX how xs))∧Below w.heap.size w w':=by
 have hb0:Below w.heap.size w (w.alloc (.cells #[.string nm,.int .i64 how,.slice A xs.length c] 124)):=(ZX _ _).alloc (Z5 _) _;have Hb0:=Z9 hb0;have dO:=LV.new w w.heap.size #[.string nm,.int .i64 how,.slice A xs.length c] 124 rfl;have HS:=Z9 (hS.aK hb0);have HT:=Z9 ht;obtain ⟨R,HR⟩:∃ R,Hid (wX how xs=R):=⟨_,Z9 rfl⟩;rw [HR.out];clear hS ht hb0;go_enter Tryz.func220,Tryz.ntmps220
 go_upto_region 1 with fail
 generalize w.alloc (.cells #[.string nm,.int .i64 how,.slice A xs.length c] 124)=w1 at *;obtain ⟨Y,hY⟩:∃ Y,Y=w.heap.size:=⟨_,rfl⟩;rw [← hY] at dO ⊢;clear hY;obtain ⟨n,hn⟩:∃ n,xs.length=n:=⟨_,rfl⟩;have Hn:=Z9 hn;rw [hn] at dO hc hl;have c1:w1.cell? ⟨Y,1,none⟩=some (.int .i64 how):=dO.cell 1 _ rfl;have c2:w1.cell? ⟨Y,2,none⟩=some (.slice A n c):=dO.cell 2 _ rfl;have HR2:Hid ((if 0 < n∧how≠5 then 3 else if 20 < n then 2 else ng [] xs)=R):=by show _=_;rw [← HR.out,wX,hn]
 clear HR hn dO;by_cases h1:0 < n∧how≠5
 ·have Hr:Hid (3=R):=by show _=_;rw [← HR2.out,if_pos h1]
  obtain ⟨h2,h3⟩:=h1;have h3':(how != 5)=true:=by simpa using h3
  have h2':decide ((0:Int) < (n:Int))=true:=by simpa using h2
  clear HR2 h3;go_wp2_with fail
  go_ret;exact ⟨aH Hr.out,Hb0.out⟩
 ·have HR3:Hid ((if 20 < n then 2 else ng [] xs)=R):=by show _=_;rw [← HR2.out,if_neg h1]
  clear HR2;by_cases h0:n=0
  ·have Hr:Hid (0=R):=by
    show _=_;have hx0:xs=[]:=List.length_eq_zero_iff.1 (by rw [Hn.out];exact h0);rw [← HR3.out,if_neg (by omega),hx0];rfl
   subst h0;clear HR3 h1;go_wp2_with fail
   go_loopw [25] (fun i wr=>i=.int .i64 0∧w1=wr) (fun _ _=>0)
   case atStart=>exact ⟨rfl,rfl⟩
   case round =>
    obtain ⟨rfl,rfl⟩:=hrel;go_wp2_with fail
    go_ret;exact ⟨aH Hr.out,Hb0.out⟩
  have h2':decide ((0:Int) < (n:Int))=true:=by simp;omega
  have h3:how=5:=Decidable.byContradiction fun h=>h1 ⟨by omega,h⟩;have h3':(how != 5)=false:=by simp [h3]
  clear h3 h1;by_cases h20:20 < n
  ·have Hr:Hid (2=R):=by show _=_;rw [← HR3.out,if_pos h20]
   clear HR3;go_wp2_with fail
   go_ret;exact ⟨aH Hr.out,Hb0.out⟩
  ·have Ae:Hid (ng [] xs=R):=by show _=_;rw [← HR3.out,if_neg h20]
   clear HR3;go_wp2_with fail
   clear c1;go_loopw [25] (fun i wr=>∃ k:Nat,k≤n∧i=.int .i64 k∧Hid (ng (xs.take k) (xs.drop k)=R)∧w1=wr) (fun i _=>n - (intOf i).toNat)
   case atStart=>exact ⟨0,ZN _,rfl,Ae,rfl⟩
   case round =>
    clear Ae;obtain ⟨k,hk,rfl,Hr,rfl⟩:=hrel;by_cases hlt:k < n
    ·obtain ⟨x,hx⟩:∃ x,xs[k]? =some x:=⟨_,Z8 (by have:=Hn.out;omega)⟩;have hxs:x.size≤1000000:=HT.out x (Z7 hx);obtain ⟨blk,off,rfl,hblk,d0⟩:=HS.out.str k x hx;have Hs:Hid ((if qR (xs.take k) x≠0 then qR (xs.take k) x else ng (xs.take k++[x]) (xs.drop (k + 1)))=R):=by show _=_;rw [← Hr.out,aac hx]
     obtain ⟨K,HK⟩:∃ K,Hid (L.isKey x=K):=⟨_,Z9 rfl⟩;have HC:Hid (∀ w,Calls Tryz.prog 113 #[.string x] w fun e w'=>e=.returned (.bool K)∧w=w'):=fun w=>HK.out ▸ E5 x w (by omega);have Hx:=Z9 hx;clear Hr hx;cases K
     ·have iT:Hid (5=R):=uZ Hs.out (by rw [qR,if_pos HK.out]) (by decide);go_wp2_with fail
      refine (HC.out _).mono ?_;rintro e _ ⟨rfl,rfl⟩;go_wp2_with fail
      go_ret;exact ⟨aH iT.out,Hb0.out⟩
     ·have pG:Hid ((if hasB (xs.take k) x=true then 6 else ng (xs.take k++[x]) (xs.drop (k + 1)))=R):=by
       show _=_;have e:qR (xs.take k) x=if hasB (xs.take k) x=true then 6 else 0:=by rw [qR,HK.out,if_neg (by decide)]
       rw [← Hs.out,e];cases hasB (xs.take k) x <;> rfl
      clear Hs HK;go_wp2_with fail
      refine (HC.out _).mono ?_;rintro e _ ⟨rfl,rfl⟩;go_wp2_with fail
      go_loopw [38] (fun j wr=>∃ p:Nat,p≤k∧j=.int .i64 p∧Hid (hasB (xs.take p) x=false)∧w1=wr) (fun j _=>k - (intOf j).toNat)
      case atStart=>exact ⟨0,ZN _,rfl,(by show _=_;simp [hasB]),rfl⟩
      case round =>
       obtain ⟨p,hp,rfl,Hp,rfl⟩:=hrel;by_cases hlt2:p < k
       ·obtain ⟨y,hy⟩:∃ y,xs[p]? =some y:=⟨_,Z8 (by have:=Hn.out;omega)⟩;obtain ⟨_,_,e,_,e0⟩:=HS.out.str p y hy;cases e;have Hy:=Z9 hy;clear hy;cases hyx:(y.toList==x.toList)
        ·have Hp2:Hid (hasB (xs.take (p + 1)) x=false):=by
          show _=_;have h:=Hp.out;unfold hasB at h ⊢;rw [take_snoc Hy.out,List.any_append,h];simp [hyx]
         go_wp2_with fail
         go_roundw
         case rel=>exact ⟨p + 1,by omega,by go_num,Hp2,by first | rfl | trivial⟩
         case measure=>simp [intOf];omega
        ·have iT:Hid (6=R):=by
          show _=_;rw [← pG.out,if_pos];rw [hasB,List.any_eq_true];exact ⟨y,Z7 (i:=p) (by rw [List.getElem?_take_of_lt hlt2];exact Hy.out),hyx⟩
         go_wp2_with fail
         go_ret;exact ⟨aH iT.out,Hb0.out⟩
       ·obtain rfl:p=k:=by omega
        have iT:Hid (ng (xs.take p++[x]) (xs.drop (p + 1))=R):=by show _=_;rw [← pG.out,if_neg (by rw [Hp.out];decide)]
        go_wp2_with fail
        go_roundw
        case rel=>exact ⟨p + 1,by omega,by go_num,by rw [take_snoc Hx.out];exact iT,by first | rfl | trivial⟩
        case measure=>simp [intOf];omega
    ·have iT:Hid (0=R):=by show _=_;rw [← Hr.out,ZJ (by have:=Hn.out;omega)];rfl
     go_wp2_with fail
     go_ret;exact ⟨aH iT.out,Hb0.out⟩
theorem af8 (N:Nat→Prop)(A:Option Addr)(r:aP)(c:Nat)(w:World)(hS:Sl iQ N w A r.aX)(hok:zY r) :
  Calls Tryz.prog 145 #[.slice A r.aX.length c] w fun e w'=>e=.returned (.int .i64 (uY r.aX))∧Below w.heap.size w w':=by
 obtain ⟨xs,hxs⟩:∃ xs,r.aX=xs:=⟨_,rfl⟩;have hln:=hok.sl;have hn1:=hok.sn;have hn2:=hok.ss;have hn3:=hok.st;rw [hxs] at hS hln hn1 hn2 hn3 ⊢;have HS:=Z9 hS;have H1:=Z9 hn1;have H2:=Z9 hn2;have H3:=Z9 hn3;clear hS hok hn1 hn2 hn3 hxs;obtain ⟨R,HR⟩:∃ R,Hid (uY xs=R):=⟨_,Z9 rfl⟩;rw [HR.out];by_cases h30:30 < xs.length
 ·go_enter Tryz.func145,Tryz.ntmps145
  go_wp2_with fail
  go_ret;exact ⟨aH (by rw [← HR.out,uY,if_pos h30]),ZX _ _⟩
 ·have HR2:Hid (qw none xs=R):=by show _=_;rw [← HR.out,uY,if_neg h30]
  clear HR;go_enter Tryz.func145,Tryz.ntmps145
  go_wp2_with fail
  go_loopw [11] (fun i wr=>∃ k:Nat,k≤xs.length∧i=.int .i64 k∧Hid (qw ((lu xs k).map Srv.name) (xs.drop k)=R)∧Below w.heap.size w wr) (fun i _=>xs.length - (intOf i).toNat)
  case atStart=>exact ⟨0,ZN _,rfl,HR2,ZX _ _⟩
  case round =>
   clear HR2;obtain ⟨k,hk,rfl,Hr,hbl⟩:=hrel;by_cases hlt:k < xs.length
   ·obtain ⟨p,hf⟩:∃ p,xs[k]? =some p:=⟨_,Z8 hlt⟩;have hSr:=HS.out.aK hbl;have hp1:p.name.size≤1000000:=H1.out p (Z7 hf);obtain ⟨K,HK⟩:∃ K,Hid (L.isKey p.name=K):=⟨_,Z9 rfl⟩;obtain ⟨H,HH⟩:∃ H,Hid (Dp p.how=H):=⟨_,Z9 rfl⟩;obtain ⟨F,HF⟩:∃ F,Hid (wX p.how p.srcs=F):=⟨_,Z9 rfl⟩;obtain ⟨B,HB⟩:∃ B,Hid (((lu xs k).map Srv.name).any (fun q=>jf p.name q)=B):=⟨_,Z9 rfl⟩;have bP:Hid ((if svE K H F B≠0 then svE K H F B else qw (some p.name) (xs.drop (k + 1)))=R):=by show _=_;rw [← Hr.out,aad hf,wY,HK.out,HH.out,HF.out,HB.out]
    have Hf:=Z9 hf;obtain ⟨blk,off,As,cs,rfl,hblk,d0,d1,d2,hcs,hst⟩:=hSr.srv k p hf;clear Hr hf;have hb0:Below wr.heap.size wr (wr.alloc (.cells (bG p As cs) 124)):=(ZX _ _).alloc (Z5 _) _;have Hb1:Hid (Below w.heap.size w (wr.alloc (.cells (bG p As cs) 124))):=hbl.alloc hbl.size _;have uM:Hid (∀ w,Calls Tryz.prog 113 #[.string p.name] w fun e w'=>e=.returned (.bool K)∧w=w'):=fun w=>HK.out ▸ E5 p.name w (by omega);have Rh:Hid (∀ w,Calls Tryz.prog 53 #[.int .i64 p.how,.int .i64 1,.int .i64 7] w fun e w'=>e=.returned (.bool H)∧w=w'):=fun w=>HH.out ▸ nN p.how 1 7 w;have fD:LV _ wr.heap.size _ _:=LV.new wr wr.heap.size (bG p As cs) 124 rfl;have dY:=Z9 (Sl.aK hst hb0);have Au:=Z9 (Sl.aK hSr hb0);have Hcs:=Z9 hcs;clear hSr hst hb0 hcs;go_upto_region 6 with fail
    clear d0 d1 d2;generalize wr.alloc (.cells (bG p As cs) 124)=w1 at *;obtain ⟨Y,hY⟩:∃ Y,Y=wr.heap.size:=⟨_,rfl⟩;rw [← hY] at fD ⊢;have c0:=fD.all;clear hY hbl;cases K
    ·have Hn:Hid (5=R):=uZ bP.out rfl (by decide);go_wp2_with fail
     refine (uM.out _).mono ?_;rintro e _ ⟨rfl,rfl⟩;go_wp2_with fail
     go_ret;exact ⟨aH Hn.out,Hb1.out⟩
    ·go_wp2_with fail
     refine (uM.out _).mono ?_;rintro e _ ⟨rfl,rfl⟩;cases H
     ·have Hn:Hid (4=R):=uZ bP.out rfl (by decide);go_wp2_with fail
      refine (Rh.out _).mono ?_;rintro e _ ⟨rfl,rfl⟩;go_wp2_with fail
      go_ret;exact ⟨aH Hn.out,Hb1.out⟩
     ·have Ht:=Z9 (af7 N As p.name p.how p.srcs cs w1 dY.out Hcs.out (H2.out p (Z7 Hf.out)) (H3.out p (Z7 Hf.out)));rw [HF.out] at Ht;clear HF;go_wp2_with fail
      refine (Rh.out _).mono ?_;rintro e _ ⟨rfl,rfl⟩;go_wp2_with fail
      refine (Ht.out).mono ?_;rintro e w2 ⟨rfl,hl2⟩;have Hb2:Hid (Below w.heap.size w w2):=Hb1.out.trans (hl2.mono Hb1.out.size);have af9:=Z9 (Sl.aK Au.out hl2);have jU:=LV.dQ fD hl2 fD.lt;clear Ht hl2 c0 fD Au Hb1 uM Rh;by_cases hF:F=0
      ·subst hF;have pG:Hid ((if (if B=true then (7:Int) else 0)≠0 then (if B=true then (7:Int) else 0) else qw (some p.name) (xs.drop (k + 1)))=R):=bP.out;have c0:=jU.all;go_upto_region 13 with fail
       go_cut [43] (fun s26 wx=>s26=.bool B∧Below w2.heap.size w2 wx)
       case first =>
        by_cases hk0:k=0
        ·subst hk0;obtain rfl:false=B:=HB.out;go_wp2_with fail
         go_quiet (fail)
         first | go_meet | (go_wp2_with fail;go_meet) | trace_state
         exact ⟨rfl,below_drewN _ _ _⟩
        ·obtain ⟨q,rfl⟩:∃ q,k=q + 1:=⟨k - 1,by omega⟩;obtain ⟨p',hp⟩:∃ p',xs[q]? =some p':=⟨_,Z8 (by omega)⟩;have HB2:Hid (jf p.name p'.name=B):=by
          show _=_;rw [← HB.out,nT xs q p' hp];simp
         obtain ⟨_,_,_,_,e,_,e0,_,_,_,_⟩:=af9.out.srv q p' hp;cases e;clear HB hp;go_wp2_with fail
         go_quiet (fail)
         first | go_meet | (go_wp2_with fail;go_meet) | trace_state
         exact ⟨by rw [← HB2.out];rfl,below_drewN _ _ _⟩
       case rest =>
        obtain ⟨rfl,hbc⟩:=hcut;have Hb3:Hid (Below w.heap.size w wc):=Hb2.out.trans (hbc.mono Hb2.out.size);clear c0 hbc bP HB jU;cases B
        ·have Hn:Hid (qw (some p.name) (xs.drop (k + 1))=R):=pG.out;go_wp2_with fail
         go_roundw
         case rel=>exact ⟨k + 1,by omega,by go_num,by show _=_;rw [nT xs k p Hf.out];exact Hn.out,Hb3.out⟩
         case measure=>simp [intOf];omega
        ·have Hn:Hid (7=R):=pG.out;go_wp2_with fail
         go_ret;exact ⟨aH Hn.out,Hb3.out⟩
      ·have Hn:=Z9 (uZ bP.out (v:=F) (by rw [svE,if_neg (by decide),if_neg (by decide),if_pos hF]) hF);have hF':(F != 0)=true:=by simpa using hF
       clear HB;go_wp2_with fail
       go_ret;exact ⟨aH Hn.out,Hb2.out⟩
   ·go_wp2_with fail
    go_ret;exact ⟨aH (by rw [← Hr.out,ZJ (by omega)];rfl),hbl⟩
theorem aga (N:Nat→Prop)(r:aP)(K W S:Option Addr)(ck cw cs:Nat)(w:World)(hR:kN N w r K W S)(hok:zY r)(hM:gG w) :
  Calls Tryz.prog 71 #[.agg (aN r K ck W cw S cs)] w fun e w'=>e=.returned (.int .i64 (jB r))∧Below w.heap.size w w':=by
 have hb0:Below w.heap.size w (w.alloc (.cells (aN r K ck W cw S cs) 29)):=(ZX _ _).alloc (Z5 _) _;have dO:=LV.new w w.heap.size (aN r K ck W cw S cs) 29 rfl;have Hk:=Z9 (hR.kd.aK hb0);have tC:=Z9 (fun w' (h:Below w.heap.size w w')=>aae N W r.weak cw w' (hR.wk.aK h) hok.wl hok.wt (hM.below h));have HC2:=Z9 (fun w' (h:Below w.heap.size w w')=>af8 N S r cs w' (hR.sv.aK h) hok);have hkl:=hok.kl;have hwl:=hok.wl;have hsl:=hok.sl;obtain ⟨R,HR⟩:∃ R,Hid (jB r=R):=⟨_,Z9 rfl⟩;rw [HR.out];obtain ⟨xs,most,weak,aX⟩:=r;dsimp only at *
 obtain ⟨F,HF⟩:∃ F,Hid (qp none xs=F):=⟨_,Z9 rfl⟩;obtain ⟨M,HM⟩:∃ M,Hid (decide (2≤most∧most≤2000)=M):=⟨_,Z9 rfl⟩;obtain ⟨G,HG⟩:∃ G,Hid (tV weak=G):=⟨_,Z9 rfl⟩;obtain ⟨H,HH⟩:∃ H,Hid (uY aX=H):=⟨_,Z9 rfl⟩;have HR2:Hid (yE xs.length F M weak.length G H=R):=by show _=_;rw [← HR.out,jB,HF.out,HM.out,HG.out,HH.out]
 rw [HG.out] at tC;rw [HH.out] at HC2;have Js:Hid (∀ w,Calls Tryz.prog 53 #[.int .i64 most,.int .i64 2,.int .i64 2000] w fun e w'=>e=.returned (.bool M)∧w=w'):=fun w=>HM.out ▸ nN most 2 2000 w;have Hb0:=Z9 hb0;clear HR HG HH HM hb0 hR hok hM;go_enter Tryz.func71,Tryz.ntmps71
 go_upto_region 1 with fail
 generalize w.alloc (.cells (aN ⟨xs,most,weak,aX⟩ K ck W cw S cs) 29)=w1 at *;obtain ⟨Y,hY⟩:∃ Y,Y=w.heap.size:=⟨_,rfl⟩;rw [← hY] at dO ⊢;clear hY;obtain ⟨n,hn⟩:∃ n,n=xs.length:=⟨_,rfl⟩;obtain ⟨nw,hnw⟩:∃ n,n=weak.length:=⟨_,rfl⟩;obtain ⟨ns,hns⟩:∃ n,n=aX.length:=⟨_,rfl⟩;have c0:w1.cell? ⟨Y,0,none⟩=some (.slice K n ck):=by rw [hn];exact dO.cell 0 _ rfl
 have c1:w1.cell? ⟨Y,1,none⟩=some (.int .i64 most):=dO.cell 1 _ rfl;have c2:w1.cell? ⟨Y,2,none⟩=some (.slice W nw cw):=by rw [hnw];exact dO.cell 2 _ rfl
 have Dq:∀ w',Below w1.heap.size w1 w'→w'.cell? ⟨Y,3,none⟩=some (.slice S ns cs):=fun w' h=>by rw [hns];exact (LV.dQ dO h dO.lt).cell 3 _ rfl
 have Ce:=Z9 Dq;rw [← hn,← hnw] at HR2;rw [← hnw] at tC;rw [← hns] at HC2;have Hn:=Z9 hn;rw [← hn] at hkl;rw [← hnw] at hwl;rw [← hns] at hsl;clear hn hnw hns dO Dq;by_cases h0:n=0
 ·have Hr:Hid (3=R):=by show _=_;rw [← HR2.out,yE,if_pos h0]
  subst h0;go_wp2_with fail
  go_ret;exact ⟨aH Hr.out,Hb0.out⟩
 have HR3:Hid ((if F≠0 then F else if M=false then 1 else if 200 < nw then 2 else if G≠0 then G else H)=R):=by show _=_;rw [← HR2.out,yE,if_neg h0]
 clear HR2;go_wp2_with fail
 have e9:((n:Int)==0)=false:=by simpa using h0
 rw [e9];clear e9;go_loopw [13] (fun i wr=>∃ k:Nat,k≤n∧i=.int .i64 k∧Hid (qp (lu xs k) (xs.drop k)=F)∧w1=wr) (fun i _=>n - (intOf i).toNat)
 case atStart=>exact ⟨0,ZN _,rfl,HF,rfl⟩
 case round =>
  obtain ⟨k,hk,rfl,Hr,rfl⟩:=hrel;clear HF;by_cases hlt:k < n
  ·obtain ⟨x,hx⟩:∃ x,xs[k]? =some x:=⟨_,Z8 (by have:=Hn.out;omega)⟩;obtain ⟨blk,off,rfl,hblk,d0⟩:=Hk.out.int k x hx;obtain ⟨D,HD⟩:∃ D,Hid (Q7 x=D):=⟨_,Z9 rfl⟩;have Hs:Hid ((if pO (lu xs k) x≠0 then pO (lu xs k) x else qp (some x) (xs.drop (k + 1)))=F):=by show _=_;rw [← Hr.out,Yy hx]
   have Jt:Hid (∀ w,Calls Tryz.prog 53 #[.int .i64 x,.int .i64 1,.int .i64 4] w fun e w'=>e=.returned (.bool D)∧w=w'):=fun w=>HD.out ▸ nN x 1 4 w;have Hx:=Z9 hx;clear Hr hx;cases D
   ·have Hf:Hid (4=F):=uZ Hs.out (by rw [pO,if_pos HD.out]) (by decide);have Hr:Hid (4=R):=by show _=_;rw [← HR3.out,← Hf.out];rfl
    go_wp2_with fail
    refine (Jt.out _).mono ?_;rintro e _ ⟨rfl,rfl⟩;go_wp2_with fail
    go_ret;exact ⟨aH Hr.out,Hb0.out⟩
   ·go_wp2_with fail
    refine (Jt.out _).mono ?_;rintro e _ ⟨rfl,rfl⟩;by_cases hk0:k=0
    ·subst hk0;have iT:Hid (qp (some x) (xs.drop (0 + 1))=F):=tX Hs.out (by rw [pO,HD.out];rfl);go_wp2_with fail
     go_roundw
     case rel=>exact ⟨1,by omega,by go_num,by show _=_;rw [show lu xs 1=some x from nT xs 0 x Hx.out];exact iT.out,by first | rfl | trivial⟩
     case measure=>simp [intOf];omega
    ·obtain ⟨q,rfl⟩:∃ q,k=q + 1:=⟨k - 1,by omega⟩;obtain ⟨y,hp⟩:∃ y,xs[q]? =some y:=⟨_,Z8 (by have:=Hn.out;omega)⟩;obtain ⟨_,_,e,_,e0⟩:=Hk.out.int q y hp;cases e;have hk1:decide ((0:Int) < ((q + 1:Nat):Int))=true:=by simp
     have hk2:((q + 1:Nat):Int) - 1=(q:Int):=by omega
     have Hp:=Z9 hp;clear hp;by_cases hle:x≤y
     ·have hle':decide (x≤y)=true:=decide_eq_true hle;have Hf:Hid (7=F):=uZ Hs.out (by rw [pO,HD.out,nT xs q y Hp.out];simp [hle]) (by decide);have Hr:Hid (7=R):=by show _=_;rw [← HR3.out,← Hf.out];rfl
      go_wp2_with fail
      go_ret;exact ⟨aH Hr.out,Hb0.out⟩
     ·have hle':decide (x≤y)=false:=decide_eq_false hle;have iT:Hid (qp (some x) (xs.drop (q + 1 + 1))=F):=tX Hs.out (by rw [pO,HD.out,nT xs q y Hp.out];simp [hle]);go_wp2_with fail
      go_roundw
      case rel=>exact ⟨q + 1 + 1,by omega,by go_num,by show _=_;rw [nT xs (q + 1) x Hx.out];exact iT.out,by first | rfl | trivial⟩
      case measure=>simp [intOf];omega
  ·have Hf:Hid (0=F):=by show _=_;rw [← Hr.out,ZJ (by have:=Hn.out;omega)];rfl
   have HR4:Hid ((if M=false then 1 else if 200 < nw then 2 else if G≠0 then G else H)=R):=by show _=_;rw [← HR3.out,← Hf.out];rfl
   clear HR3 Hr Hf;cases M
   ·have Hr:Hid (1=R):=HR4.out;go_wp2_with fail
    refine (Js.out _).mono ?_;rintro e _ ⟨rfl,rfl⟩;go_wp2_with fail
    go_ret;exact ⟨aH Hr.out,Hb0.out⟩
   ·go_wp2_with fail
    refine (Js.out _).mono ?_;rintro e _ ⟨rfl,rfl⟩;have Dt:Hid ((if 200 < nw then 2 else if G≠0 then G else H)=R):=HR4.out;clear HR4;by_cases h2:200 < nw
    ·have Hr:Hid (2=R):=by show _=_;rw [← Dt.out,if_pos h2]
     go_wp2_with fail
     go_ret;exact ⟨aH Hr.out,Hb0.out⟩
    ·have rF:Hid ((if G≠0 then G else H)=R):=by show _=_;rw [← Dt.out,if_neg h2]
     clear Dt;go_wp2_with fail
     refine (tC.out _ Hb0.out).mono ?_;rintro e w2 ⟨rfl,hl2⟩;have Hb2:Hid (Below w.heap.size w w2):=Hb0.out.trans (hl2.mono Hb0.out.size);have c3:=Ce.out w2 hl2;clear hl2 c0 c1 c2 tC;by_cases hG:G=0
     ·have lq:=Z9 (tX rF.out hG);subst hG;go_wp2_with fail
      refine (HC2.out _ Hb2.out).mono ?_;rintro e w3 ⟨rfl,hl3⟩;go_wp2_with fail
      go_ret;exact ⟨aH lq.out,Hb2.out.trans (hl3.mono Hb2.out.size)⟩
     ·have lq:=Z9 (yF rF.out hG);have hG':(G != 0)=true:=by simpa using hG
      go_wp2_with fail
      go_ret;exact ⟨aH lq.out,Hb2.out⟩
end
section
open Go Go.RowKit
theorem agb (l:List ByteArray)(x:ByteArray):Lib.containsS l x=hasB l x:=by
 rw [Y7,Lib.containsS_iff,List.any_eq_true];exact ⟨fun h=>⟨x,h,yx.2 rfl⟩,fun ⟨y,hy,e⟩=>by rw [← yx.1 e];exact hy⟩
theorem agc (N:Nat→Prop)(A:Option Addr)(nm:ByteArray)(how:Int)(xs:List ByteArray)(c:Nat)(last:ByteArray)(w:World)(hS:Sl fB N w A xs)(hc:xs.length≤c)(hl:xs.length≤1000000)(hn:nm.size≤1000000)(ht:∀ x∈xs,x.size≤1000000) :
  Calls Tryz.prog 74 #[.agg #[.string nm,.int .i64 how,.slice A xs.length c],.string last] w fun e w'=>e=.returned (.int .i64 (svE (L.isKey nm) (Dp how) (wX how xs) (jf nm last)))∧Below w.heap.size w w':=by
 have hb0:Below w.heap.size w (w.alloc (.cells #[.string nm,.int .i64 how,.slice A xs.length c] 124)):=(ZX _ _).alloc (Z5 _) _;have Hb0:=Z9 hb0;have dO:=LV.new w w.heap.size #[.string nm,.int .i64 how,.slice A xs.length c] 124 rfl;have HS:=Z9 (hS.aK hb0);have HT:=Z9 ht;obtain ⟨K,HK⟩:∃ K,Hid (L.isKey nm=K):=⟨_,Z9 rfl⟩;obtain ⟨H,HH⟩:∃ H,Hid (Dp how=H):=⟨_,Z9 rfl⟩;obtain ⟨F,HF⟩:∃ F,Hid (wX how xs=F):=⟨_,Z9 rfl⟩;obtain ⟨B,HB⟩:∃ B,Hid (jf nm last=B):=⟨_,Z9 rfl⟩;have C1:Hid (∀ w,Calls Tryz.prog 61 #[.string nm] w fun e w'=>e=.returned (.bool K)∧Below w.heap.size w w'):=fun w=>HK.out ▸ E8 nm w (by omega);have C2:Hid (∀ w,Calls Tryz.prog 62 #[.int .i64 how,.int .i64 1,.int .i64 7] w fun e w'=>e=.returned (.bool H)∧w=w'):=fun w=>HH.out ▸ iY how 1 7 w;rw [HK.out,HH.out,HF.out,HB.out];obtain ⟨R,HR⟩:∃ R,Hid (svE K H F B=R):=⟨_,Z9 rfl⟩;rw [HR.out];clear hS ht hb0 HK HH;go_enter Tryz.func74,Tryz.ntmps74
 go_upto_region 1 with fail
 generalize w.alloc (.cells #[.string nm,.int .i64 how,.slice A xs.length c] 124)=w1 at *;obtain ⟨Y,hY⟩:∃ Y,Y=w.heap.size:=⟨_,rfl⟩;rw [← hY] at dO ⊢;clear hY;obtain ⟨n,hnn⟩:∃ n,xs.length=n:=⟨_,rfl⟩;have Hn:=Z9 hnn;rw [hnn] at dO hc hl;clear hnn;have c0:=dO.all;go_wp2_with fail
 refine (C1.out w1).mono ?_;rintro e w2 ⟨rfl,hl2⟩;have Hb2:Hid (Below w.heap.size w w2):=Hb0.out.trans (hl2.mono Hb0.out.size);have jU:=LV.dQ dO hl2 dO.lt;have HS2:=Z9 (HS.out.aK hl2);clear hl2 c0 dO HS C1 Hb0;have c0:=jU.all;cases K
 ·obtain rfl:5=R:=HR.out;go_wp2_with fail
  go_ret;exact ⟨rfl,Hb2.out⟩
 ·cases H
  ·obtain rfl:4=R:=HR.out;go_wp2_with fail
   refine (C2.out _).mono ?_;rintro e _ ⟨rfl,rfl⟩;go_wp2_with fail
   go_ret;exact ⟨rfl,Hb2.out⟩
  ·have HR2:Hid ((if F≠0 then F else if B=true then 7 else 0)=R):=HR.out;clear HR;go_wp2_with fail
   refine (C2.out _).mono ?_;rintro e _ ⟨rfl,rfl⟩;have HF2:Hid ((if 0 < n∧how≠5 then 3 else if 20 < n then 2 else ng [] xs)=F):=by show _=_;rw [← HF.out,wX,Hn.out]
   clear HF;by_cases h1:0 < n∧how≠5
   ·have Hf:Hid (3=F):=by show _=_;rw [← HF2.out,if_pos h1]
    have Hr:Hid (3=R):=by show _=_;rw [← HR2.out,← Hf.out];rfl
    obtain ⟨h2,h3⟩:=h1;have h3':(how != 5)=true:=by simpa using h3
    have h2':decide ((0:Int) < (n:Int))=true:=by simpa using h2
    clear HR2 h3;go_wp2_with fail
    go_ret;exact ⟨aH Hr.out,Hb2.out⟩
   ·have HF3:Hid ((if 20 < n then 2 else ng [] xs)=F):=by show _=_;rw [← HF2.out,if_neg h1]
    clear HF2;by_cases h20:20 < n
    ·have h2':decide ((0:Int) < (n:Int))=true:=by simp;omega
     have h3:how=5:=Decidable.byContradiction fun h=>h1 ⟨by omega,h⟩;have h3':(how != 5)=false:=by simp [h3]
     clear h3 h1;have Hf:Hid (2=F):=by show _=_;rw [← HF3.out,if_pos h20]
     have Hr:Hid (2=R):=by show _=_;rw [← HR2.out,← Hf.out];rfl
     clear HR2 HF3;go_wp2_with fail
     go_ret;exact ⟨aH Hr.out,Hb2.out⟩
    ·have Nk:Hid (ng [] xs=F):=by show _=_;rw [← HF3.out,if_neg h20]
     clear HF3;have hform:(0 < n∧how=5)∨n=0:=by
      rcases Nat.eq_zero_or_pos n with h | h
      ·exact .inr h
      ·exact .inl ⟨h,Decidable.byContradiction fun h2=>h1 ⟨h,h2⟩⟩
     clear h1;rcases hform with ⟨h0,h3⟩ | h0
     ·have h2':decide ((0:Int) < (n:Int))=true:=by simp;omega
      have h3':(how != 5)=false:=by simp [h3]
      clear h3;go_wp2_with fail
      clear c0;go_loopw [35] (fun i wr=>∃ k:Nat,k≤n∧i=.int .i64 k∧Hid (ng (xs.take k) (xs.drop k)=F)∧Below w2.heap.size w2 wr) (fun i _=>n - (intOf i).toNat)
      case atStart=>exact ⟨0,ZN _,rfl,Nk,ZX _ _⟩
      case round =>
       clear Nk;obtain ⟨k,hk,rfl,Hr,hbl⟩:=hrel;have Nl:=LV.dQ jU hbl jU.lt;have c0:=Nl.all;have vg:Hid (Below w.heap.size w wr):=Hb2.out.trans (hbl.mono Hb2.out.size);have Au:=Z9 (HS2.out.aK hbl);have yG:=Z9 hbl;clear hbl;by_cases hlt:k < n
       ·obtain ⟨x,hx⟩:∃ x,xs[k]? =some x:=⟨_,Z8 (by have:=Hn.out;omega)⟩;have hxs:x.size≤1000000:=HT.out x (Z7 hx);obtain ⟨blk,off,rfl,hblk,d0⟩:=Au.out.str k x hx;have Hs:Hid ((if qR (xs.take k) x≠0 then qR (xs.take k) x else ng (xs.take k++[x]) (xs.drop (k + 1)))=F):=by show _=_;rw [← Hr.out,aac hx]
        obtain ⟨Q,HQ⟩:∃ Q,Hid (L.isKey x=Q):=⟨_,Z9 rfl⟩;have HC:Hid (∀ w,Calls Tryz.prog 61 #[.string x] w fun e w'=>e=.returned (.bool Q)∧Below w.heap.size w w'):=fun w=>HQ.out ▸ E8 x w (by omega);have Hx:=Z9 hx;clear Hr hx;go_wp2_with fail
        refine (HC.out wr).mono ?_;rintro e w3 ⟨rfl,hl3⟩;have Hb3:Hid (Below w.heap.size w w3):=vg.out.trans (hl3.mono vg.out.size);have agd:Hid (Below w2.heap.size w2 w3):=yG.out.trans (hl3.mono yG.out.size);have Dq:=LV.dQ Nl hl3 Nl.lt;have yj:=Z9 (Au.out.aK hl3);clear c0 hl3 HC d0 Nl;have c0:=Dq.all;cases Q
        ·have Hf:Hid (5=F):=uZ Hs.out (by rw [qR,if_pos HQ.out]) (by decide);have Hr:Hid (5=R):=by show _=_;rw [← HR2.out,← Hf.out];rfl
         go_wp2_with fail
         go_ret;exact ⟨aH Hr.out,Hb3.out⟩
        ·obtain ⟨T,HT2⟩:∃ T,Hid (hasB (xs.take k) x=T):=⟨_,Z9 rfl⟩;have pG:Hid ((if T=true then 6 else ng (xs.take k++[x]) (xs.drop (k + 1)))=F):=by
          show _=_;have e:qR (xs.take k) x=if T=true then 6 else 0:=by rw [qR,HQ.out,if_neg (by decide),← HT2.out]
          rw [← Hs.out,e];cases T <;> rfl
         have Hc:=Z9 (afT N (some ⟨blk,off,none⟩) xs c k x w3 yj.out (by have:=Hn.out;omega) (by have:=Hn.out;omega));rw [agb,HT2.out] at Hc;have hkc:k≤c:=by omega
         clear Hs;go_wp2_with fail
         refine (Hc.out).mono ?_;rintro e _ ⟨rfl,rfl⟩;cases T
         ·have iT:Hid (ng (xs.take k++[x]) (xs.drop (k + 1))=F):=pG.out;clear c0;go_wp2_with fail
          go_roundw
          case rel=>exact ⟨k + 1,by omega,by go_num,by show _=_;rw [take_snoc Hx.out];exact iT.out,agd.out⟩
          case measure=>simp [intOf];omega
         ·have Hf:Hid (6=F):=pG.out;have Hr:Hid (6=R):=by show _=_;rw [← HR2.out,← Hf.out];rfl
          go_wp2_with fail
          go_ret;exact ⟨aH Hr.out,Hb3.out⟩
       ·have Hf:Hid (0=F):=by show _=_;rw [← Hr.out,ZJ (by have:=Hn.out;omega)];rfl
        have HR3:Hid ((if B=true then 7 else 0)=R):=by show _=_;rw [← HR2.out,← Hf.out];rfl
        clear HR2 Hr Hf;have hB:(Op.bytesLess nm.toList last.toList || (nm.toList==last.toList))=B:=HB.out;cases B
        ·have Hr:Hid (0=R):=HR3.out;go_wp2_with fail
         all_goals first | (go_ret;exact ⟨aH Hr.out,vg.out⟩) | (exfalso;simp_all)
        ·have Hr:Hid (7=R):=HR3.out;go_wp2_with fail
         all_goals first | (go_ret;exact ⟨aH Hr.out,vg.out⟩) | (exfalso;simp_all)
     ·have hx0:xs=[]:=List.length_eq_zero_iff.1 (by rw [Hn.out];exact h0);have HR3:Hid ((if B=true then 7 else 0)=R):=by show _=_;rw [← HR2.out,← Nk.out,hx0];rfl
      have hB:(Op.bytesLess nm.toList last.toList || (nm.toList==last.toList))=B:=HB.out;subst h0;clear hx0 HR2 Nk;go_wp2_with fail
      go_loopw [35] (fun i wr=>i=.int .i64 0∧w2=wr) (fun _ _=>0)
      case atStart=>exact ⟨rfl,rfl⟩
      case round =>
       obtain ⟨rfl,rfl⟩:=hrel;cases B
       ·have Hr:Hid (0=R):=HR3.out;go_wp2_with fail
        all_goals first | (go_ret;exact ⟨aH Hr.out,Hb2.out⟩) | (exfalso;simp_all)
       ·have Hr:Hid (7=R):=HR3.out;go_wp2_with fail
        all_goals first | (go_ret;exact ⟨aH Hr.out,Hb2.out⟩) | (exfalso;simp_all)
theorem Ju (N:Nat→Prop)(r:aP)(K W S:Option Addr)(ck cw cs:Nat)(w:World)(hR:kN N w r K W S)(hok:zY r)(hM:gG w) :
  Calls Tryz.prog 17 #[.agg (aN r K ck W cw S cs)] w fun e w'=>e=.returned (.int .i64 (jB r))∧Below w.heap.size w w':=by
 have hb0:Below w.heap.size w (w.alloc (.cells (aN r K ck W cw S cs) 29)):=(ZX _ _).alloc (Z5 _) _;have dO:=LV.new w w.heap.size (aN r K ck W cw S cs) 29 rfl;have Hk:=Z9 (hR.kd.aK hb0);have tC:=Z9 (fun w' (h:Below w.heap.size w w')=>aaf N W r.weak cw w' (hR.wk.aK h) hok.wl hok.wt (hM.below h));have EU:=Z9 (fun w' (h:Below w.heap.size w w')=>hR.sv.aK h);have hkl:=hok.kl;have hwl:=hok.wl;have hsl:=hok.sl;have H1:=Z9 hok.sn;have H2:=Z9 hok.ss;have H3:=Z9 hok.st;obtain ⟨R,HR⟩:∃ R,Hid (jB r=R):=⟨_,Z9 rfl⟩;rw [HR.out];obtain ⟨xs,most,weak,aX⟩:=r;dsimp only at *
 obtain ⟨F,HF⟩:∃ F,Hid (qp none xs=F):=⟨_,Z9 rfl⟩;obtain ⟨M,HM⟩:∃ M,Hid (decide (2≤most∧most≤2000)=M):=⟨_,Z9 rfl⟩;obtain ⟨G,HG⟩:∃ G,Hid (tV weak=G):=⟨_,Z9 rfl⟩;obtain ⟨H,HH⟩:∃ H,Hid (uY aX=H):=⟨_,Z9 rfl⟩;have HR2:Hid (yE xs.length F M weak.length G H=R):=by show _=_;rw [← HR.out,jB,HF.out,HM.out,HG.out,HH.out]
 rw [HG.out] at tC;have Js:Hid (∀ w,Calls Tryz.prog 62 #[.int .i64 most,.int .i64 2,.int .i64 2000] w fun e w'=>e=.returned (.bool M)∧w=w'):=fun w=>HM.out ▸ iY most 2 2000 w;have Hb0:=Z9 hb0;clear HR HG HM hb0 hR hok hM;go_enter Tryz.func17,Tryz.ntmps17
 go_upto_region 1 with fail
 generalize w.alloc (.cells (aN ⟨xs,most,weak,aX⟩ K ck W cw S cs) 29)=w1 at *;obtain ⟨Y,hY⟩:∃ Y,Y=w.heap.size:=⟨_,rfl⟩;rw [← hY] at dO ⊢;clear hY;obtain ⟨n,hn⟩:∃ n,n=xs.length:=⟨_,rfl⟩;obtain ⟨nw,hnw⟩:∃ n,n=weak.length:=⟨_,rfl⟩;obtain ⟨ns,hns⟩:∃ n,n=aX.length:=⟨_,rfl⟩;have c0:w1.cell? ⟨Y,0,none⟩=some (.slice K n ck):=by rw [hn];exact dO.cell 0 _ rfl
 have c1:w1.cell? ⟨Y,1,none⟩=some (.int .i64 most):=dO.cell 1 _ rfl;have c2:w1.cell? ⟨Y,2,none⟩=some (.slice W nw cw):=by rw [hnw];exact dO.cell 2 _ rfl
 have Dq:∀ w',Below w1.heap.size w1 w'→w'.cell? ⟨Y,3,none⟩=some (.slice S ns cs):=fun w' h=>by rw [hns];exact (LV.dQ dO h dO.lt).cell 3 _ rfl
 have Ce:=Z9 Dq;rw [← hn,← hnw] at HR2;rw [← hnw] at tC;have Hn:=Z9 hn;have Np:=Z9 hns;rw [← hn] at hkl;rw [← hnw] at hwl;rw [← hns] at hsl;clear hn hnw hns dO Dq;by_cases h0:n=0
 ·have Hr:Hid (3=R):=by show _=_;rw [← HR2.out,yE,if_pos h0]
  subst h0;go_wp2_with fail
  go_ret;exact ⟨aH Hr.out,Hb0.out⟩
 have HR3:Hid ((if F≠0 then F else if M=false then 1 else if 200 < nw then 2 else if G≠0 then G else H)=R):=by show _=_;rw [← HR2.out,yE,if_neg h0]
 clear HR2;go_wp2_with fail
 have e9:((n:Int)==0)=false:=by simpa using h0
 rw [e9];clear e9;go_loopw [3,18] (fun s i wr=>∃ (k:Nat) (last:Int),k≤n∧i=.int .i64 k∧s=.int .i64 last∧Hid (∀ p,lu xs k=some p→last=p)∧Hid (qp (lu xs k) (xs.drop k)=F)∧w1=wr) (fun _ i _=>n - (intOf i).toNat)
 case atStart=>exact ⟨0,0,ZN _,rfl,rfl,(by show ∀ p,_;intro p h;cases h),HF,rfl⟩
 case round =>
  obtain ⟨k,last,hk,rfl,rfl,FU,Hr,rfl⟩:=hrel;clear HF;by_cases hlt:k < n
  ·obtain ⟨x,hx⟩:∃ x,xs[k]? =some x:=⟨_,Z8 (by have:=Hn.out;omega)⟩;obtain ⟨blk,off,rfl,hblk,d0⟩:=Hk.out.int k x hx;obtain ⟨D,HD⟩:∃ D,Hid (Q7 x=D):=⟨_,Z9 rfl⟩;have Hs:Hid ((if pO (lu xs k) x≠0 then pO (lu xs k) x else qp (some x) (xs.drop (k + 1)))=F):=by show _=_;rw [← Hr.out,Yy hx]
   have Jt:Hid (∀ w,Calls Tryz.prog 62 #[.int .i64 x,.int .i64 1,.int .i64 4] w fun e w'=>e=.returned (.bool D)∧w=w'):=fun w=>HD.out ▸ iY x 1 4 w;have Hx:=Z9 hx;clear Hr hx;have aag:Hid (∀ p,lu xs (k + 1)=some p→x=p):=fun p hp=>by rw [nT xs k x Hx.out] at hp;exact Option.some.inj hp
   cases D
   ·have Hf:Hid (4=F):=uZ Hs.out (by rw [pO,if_pos HD.out]) (by decide);have Hr:Hid (4=R):=by show _=_;rw [← HR3.out,← Hf.out];rfl
    go_wp2_with fail
    refine (Jt.out _).mono ?_;rintro e _ ⟨rfl,rfl⟩;go_wp2_with fail
    go_ret;exact ⟨aH Hr.out,Hb0.out⟩
   ·go_wp2_with fail
    refine (Jt.out _).mono ?_;rintro e _ ⟨rfl,rfl⟩;by_cases hk0:k=0
    ·subst hk0;have iT:Hid (qp (some x) (xs.drop (0 + 1))=F):=tX Hs.out (by rw [pO,HD.out];rfl);go_wp2_with fail
     go_roundw
     case rel=>exact ⟨1,x,by omega,by go_num,rfl,aag,by show _=_;rw [show lu xs 1=some x from nT xs 0 x Hx.out];exact iT.out,by first | rfl | trivial⟩
     case measure=>simp [intOf];omega
    ·obtain ⟨q,rfl⟩:∃ q,k=q + 1:=⟨k - 1,by omega⟩;obtain ⟨y,hp⟩:∃ y,xs[q]? =some y:=⟨_,Z8 (by have:=Hn.out;omega)⟩;obtain rfl:last=y:=FU.out y (nT xs q y hp);have hk1:decide ((0:Int) < ((q + 1:Nat):Int))=true:=by simp
     have Hp:=Z9 hp;clear hp FU;by_cases hle:x≤last
     ·have hle':decide (x≤last)=true:=decide_eq_true hle;have Hf:Hid (7=F):=uZ Hs.out (by rw [pO,HD.out,nT xs q last Hp.out];simp [hle]) (by decide);have Hr:Hid (7=R):=by show _=_;rw [← HR3.out,← Hf.out];rfl
      go_wp2_with fail
      go_ret;exact ⟨aH Hr.out,Hb0.out⟩
     ·have hle':decide (x≤last)=false:=decide_eq_false hle;have iT:Hid (qp (some x) (xs.drop (q + 1 + 1))=F):=tX Hs.out (by rw [pO,HD.out,nT xs q last Hp.out];simp [hle]);go_wp2_with fail
      go_roundw
      case rel=>exact ⟨q + 1 + 1,x,by omega,by go_num,rfl,aag,by show _=_;rw [nT xs (q + 1) x Hx.out];exact iT.out,by first | rfl | trivial⟩
      case measure=>simp [intOf];omega
  ·have Hf:Hid (0=F):=by show _=_;rw [← Hr.out,ZJ (by have:=Hn.out;omega)];rfl
   have HR4:Hid ((if M=false then 1 else if 200 < nw then 2 else if G≠0 then G else H)=R):=by show _=_;rw [← HR3.out,← Hf.out];rfl
   clear HR3 Hr Hf FU;cases M
   ·have Hr:Hid (1=R):=HR4.out;go_wp2_with fail
    refine (Js.out _).mono ?_;rintro e _ ⟨rfl,rfl⟩;go_wp2_with fail
    go_ret;exact ⟨aH Hr.out,Hb0.out⟩
   ·go_wp2_with fail
    refine (Js.out _).mono ?_;rintro e _ ⟨rfl,rfl⟩;have Dt:Hid ((if 200 < nw then 2 else if G≠0 then G else H)=R):=HR4.out;clear HR4;by_cases h2:200 < nw
    ·have Hr:Hid (2=R):=by show _=_;rw [← Dt.out,if_pos h2]
     go_wp2_with fail
     go_ret;exact ⟨aH Hr.out,Hb0.out⟩
    ·have rF:Hid ((if G≠0 then G else H)=R):=by show _=_;rw [← Dt.out,if_neg h2]
     clear Dt;go_wp2_with fail
     refine (tC.out _ Hb0.out).mono ?_;rintro e w2 ⟨rfl,hl2⟩;have Hb2:Hid (Below w.heap.size w w2):=Hb0.out.trans (hl2.mono Hb0.out.size);have c3:=Ce.out w2 hl2;clear hl2 c0 c1 c2 tC;by_cases hG:G=0
     ·have lq:=Z9 (tX rF.out hG);clear rF;subst hG;by_cases h30:30 < ns
      ·have Hr:Hid (2=R):=by show _=_;rw [← lq.out,← HH.out,uY,if_pos (by have:=Np.out;omega)]
       go_wp2_with fail
       go_ret;exact ⟨aH Hr.out,Hb2.out⟩
      ·have HH2:Hid (qw none aX=R):=by show _=_;rw [← lq.out,← HH.out,uY,if_neg (by have:=Np.out;omega)]
       clear HH lq;go_wp2_with fail
       go_loopw [7,56] (fun s i wr=>∃ (k:Nat) (last:ByteArray),k≤ns∧i=.int .i64 k∧s=.string last∧Hid (((lu aX k).map Srv.name).getD ⟨#[]⟩=last)∧Hid (qw ((lu aX k).map Srv.name) (aX.drop k)=R)∧Below w.heap.size w wr) (fun _ i _=>ns - (intOf i).toNat)
       case atStart=>exact ⟨0,⟨#[]⟩,ZN _,rfl,rfl,rfl,HH2,Hb2.out⟩
       case round =>
        clear HH2 c3 Hb2;obtain ⟨k,last,hk,rfl,rfl,FU,Hr,hbl⟩:=hrel;by_cases hlt:k < ns
        ·obtain ⟨p,hf⟩:∃ p,aX[k]? =some p:=⟨_,Z8 (by have:=Np.out;omega)⟩;have hp1:p.name.size≤1000000:=H1.out p (Z7 hf);obtain ⟨K1,HK1⟩:∃ K,Hid (L.isKey p.name=K):=⟨_,Z9 rfl⟩;obtain ⟨blk,off,As,cs2,rfl,hblk,d0,d1,d2,hcs,hst⟩:=(EU.out wr hbl).srv k p hf;have hb0:Below wr.heap.size wr (wr.alloc (.cells (bG p As cs2) 124)):=(ZX _ _).alloc (Z5 _) _;have Hb1:Hid (Below w.heap.size w (wr.alloc (.cells (bG p As cs2) 124))):=hbl.alloc hbl.size _;have fD:LV _ wr.heap.size _ _:=LV.new wr wr.heap.size (bG p As cs2) 124 rfl;have Hc:=Z9 (agc N As p.name p.how p.srcs cs2 last _ (hst.aK hb0) hcs (H2.out p (Z7 hf)) hp1 (H3.out p (Z7 hf)));obtain ⟨E,HE⟩:∃ E,Hid (svE (L.isKey p.name) (Dp p.how) (wX p.how p.srcs) (jf p.name last)=E):=⟨_,Z9 rfl⟩;have Hs:Hid ((if E≠0 then E else qw (some p.name) (aX.drop (k + 1)))=R):=by
          show _=_;rw [← Hr.out,aad hf,wY];have e:svE (L.isKey p.name) (Dp p.how) (wX p.how p.srcs) (((lu aX k).map Srv.name).any (fun q=>jf p.name q))=E:=by
           rw [← HE.out];cases hkk:L.isKey p.name with
           | false=>rfl
           | true=>rw [agf hkk,FU.out]
          rw [e]
         rw [HE.out] at Hc;have Hf:=Z9 hf;clear hst hb0 hcs Hr hf HE FU hbl;go_wp2_with fail
         refine (Hc.out).mono ?_;rintro e w3 ⟨rfl,hl3⟩;have lv4:=LV.dQ fD hl3 fD.lt;have Hb3:Hid (Below w.heap.size w w3):=Hb1.out.trans (hl3.mono Hb1.out.size);clear Hc hl3 d0 d1 d2 fD;by_cases hE:E=0
         ·have Ri:=Z9 (tX Hs.out hE);subst hE;have y0:=lv4.cell 0 _ rfl;go_wp2_with fail
          go_roundw
          case rel=>exact ⟨k + 1,p.name,by omega,by go_num,rfl,by show _=_;rw [nT aX k p Hf.out];rfl,by show _=_;rw [nT aX k p Hf.out];exact Ri.out,Hb3.out⟩
          case measure=>simp [intOf];omega
         ·have Ri:=Z9 (yF Hs.out hE);have hE':(E != 0)=true:=by simpa using hE
          go_wp2_with fail
          go_ret;exact ⟨aH Ri.out,Hb3.out⟩
        ·go_wp2_with fail
         go_ret;exact ⟨aH (by rw [← Hr.out,ZJ (by have:=Np.out;omega)];rfl),hbl⟩
     ·have lq:=Z9 (yF rF.out hG);have hG':(G != 0)=true:=by simpa using hG
      go_wp2_with fail
      go_ret;exact ⟨aH lq.out,Hb2.out⟩
end
end Go.Proofs.YtmkkppknaikjjaaGreatDoor
