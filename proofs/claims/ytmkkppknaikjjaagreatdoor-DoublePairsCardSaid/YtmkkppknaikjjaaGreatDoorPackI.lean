/- Several texts in one: IdLaw, IdPreds, CheckId, IdFault. -/
import Derived.Test.YtmkkppknaikjjaaGreatDoorPackW
import Derived.Test.YtmkkppknaikjjaaGreatDoorPackM
/- Plain laws on ids: what is a mail address, a phone number, a member number, the id of a device. No program is in sight. -/
set_option maxRecDepth 100000
set_option maxHeartbeats 4000000
open Go.Lib renaming hid→Z9, hasPrefix→Y1, cut→YR, trimPrefix→YO, indexByte→YF
open List renaming getElem?_eq_getElem→Z8, mem_of_getElem?→Z7, length_cons→ZV, length_take→ZR, length_drop→ZK, drop_eq_nil_of_le→ZJ, drop_eq_getElem_cons→Zz, length→Zf, dropWhile_sublist→YN, mem_singleton→YB
open Nat renaming le_refl→Z5, zero_le→ZN, le_trans→ZE, zero_add→Zh
open Go.RowKit.Below renaming refl→ZX
open Bool renaming and_eq_true→ZQ, eq_iff_iff→Y7
open Int renaming eq_ofNat_of_zero_le→Zi
namespace Go.Proofs.YtmkkppknaikjjaaGreatDoor.L
open Go
def AU (c:UInt8):Bool:=isSmall c || isDigit c || c.toNat==46 || c.toNat==45 || c.toNat==95
def AV (c:UInt8):Bool:=isSmall c || isDigit c || c.toNat==45
def lD (c:UInt8):Bool:=isDigit c || SG c
def AX (c:UInt8):Bool:=isDigit c || (decide (97≤c.toNat) && decide (c.toNat≤102))
def ends (l:List UInt8)(c:UInt8):Bool:=l.headD 0 != c && l.getLastD 0 != c
def kV (s:ByteArray):Bool:=decide (1≤s.size) && decide (s.size≤30) && ends s.data.toList 45 && s.data.toList.all AV
def labels (d:ByteArray):List ByteArray:=Lib.splitB ⟨#[46]⟩ 0 (Lib.countB d ⟨#[46]⟩) d
def uf (l:ByteArray):Bool:=decide (1≤l.size) && decide (l.size≤64) && ends l.data.toList 46 && !Lib.contains l.data.toList [46,46] && l.data.toList.all AU
def AY (s:ByteArray):Bool :=
 (YR s.data.toList [64]).2.2 && decide (s.size≤80) && uf ⟨(YR s.data.toList [64]).1.toArray⟩ && (labels ⟨(YR s.data.toList [64]).2.1.toArray⟩).all kV && decide (2≤(labels ⟨(YR s.data.toList [64]).2.1.toArray⟩).length)
def ug (s:ByteArray):Bool:=Y1 s.data.toList [43] && decide (8≤s.size) && decide (s.size≤16) && (s.data.toList.drop 1).all isDigit && (s.data.toList.drop 1).headD 0 != 48
def sF (s:ByteArray):Bool:=decide (4≤s.size) && decide (s.size≤20) && s.data.toList.all lD
def AZ (s:ByteArray):Bool:=decide (s.size=32) && s.data.toList.all AX
def signs:List UInt8:=sG++SH
def qW (c:UInt8):Nat:=(YF signs c).toNat
def sH (n:Nat):Nat:=n / 36 + n % 36
def sJ:List UInt8→Nat
 | []=>0
 | c::t=>sH (if t.length % 2=0 then 2 * qW c else qW c) + sJ t
def qC (l:List UInt8):Nat:=(36 - sJ l % 36) % 36
def yQ (n:Nat):UInt8:=signs.getD n 0
def iq (k:Int)(s:ByteArray):Int :=
 if k=1 then (if AY s then 0 else 3) else if k=2 then (if ug s then 0 else 3)
 else if k=3 then (if sF s then (if yQ (qC s.data.toList.dropLast)=s.data.toList.getLastD 0 then 0 else 15) else 3)
 else if k=4 then (if AZ s then 0 else 3) else 4
theorem SI (c:UInt8)(h:lD c=true):0≤YF signs c∧YF signs c < 36 :=
 Ba (p:=fun c=>lD c=true→0≤YF signs c∧YF signs c < 36) (by decide +kernel) c h
theorem aha (c:UInt8):(Bc++sG++[46,45,95]).contains c=AU c:=Ba (p:=fun c=>(Bc++sG++[46,45,95]).contains c=AU c) (by decide +kernel) c
theorem ahb (c:UInt8):(Bc++sG++[45]).contains c=AV c:=Ba (p:=fun c=>(Bc++sG++[45]).contains c=AV c) (by decide +kernel) c
theorem ahc (c:UInt8):(sG++SH).contains c=lD c:=Ba (p:=fun c=>(sG++SH).contains c=lD c) (by decide +kernel) c
theorem ahe (c:UInt8):(sG++[97,98,99,100,101,102]).contains c=AX c:=Ba (p:=fun c=>(sG++[97,98,99,100,101,102]).contains c=AX c) (by decide +kernel) c
theorem Oc (n:Nat)(h:n≤70):sH n≤36:=by unfold sH;omega
theorem ahf (c:UInt8)(h:lD c=true):qW c≤35:=by have:=SI c h;unfold qW;omega
theorem SL:∀ l:List UInt8,l.all lD=true→sJ l≤36 * l.length
 | [],_=>by simp [sJ]
 | c::t,h=>by
  simp only [List.all_cons,ZQ] at h;have h1:=ahf c h.1;have h2:=SL t h.2;have h3:=Oc (if t.length % 2=0 then 2 * qW c else qW c) (by split <;> omega);rw [sJ,ZV];omega
theorem ahg (l:List UInt8)(c:UInt8)(h:l≠[]):(Lib.trimS l [c]==l)=ends l c:=by
 have hd:∀ (m:List UInt8),m.headD 0≠c→m.dropWhile ([c].contains ·)=m:=fun m hm=>by
  cases m with
  | nil=>rfl
  | cons a t=>rw [List.dropWhile_cons_of_neg];simpa using hm
 have hl:∀ m:List UInt8,m.reverse.headD 0=m.getLastD 0:=fun m=>by
  rw [List.headD_eq_head?_getD,List.getLastD_eq_getLast?,List.head?_reverse]
 rw [Y7,beq_iff_eq];unfold ends Lib.trimS Lib.trimLeftS Lib.trimRightS;simp only [ZQ,bne_iff_ne,ne_eq];constructor
 ·intro e;have hlen:=congrArg Zf e;have k1:=(YN ([c].contains ·) (l:=(l.reverse.dropWhile ([c].contains ·)).reverse)).length_le;have k2:=(YN ([c].contains ·) (l:=l.reverse)).length_le;simp only [List.length_reverse] at k1 k2;have e2:l.reverse.dropWhile ([c].contains ·)=l.reverse:=(YN _).eq_of_length (by rw [List.length_reverse];omega);rw [e2,List.reverse_reverse] at e;constructor
  ·intro h0;cases l with
   | nil=>exact h rfl
   | cons a t =>
    have ha:a=c:=h0;rw [List.dropWhile_cons_of_pos (by simp [ha])] at e;have:=congrArg Zf e
    have k3:=(YN ([c].contains ·) (l:=t)).length_le;simp only [ZV] at this;omega
  ·intro h0;rw [← hl] at h0;cases hr:l.reverse with
   | nil=>simp at hr;exact h hr
   | cons a t =>
    rw [hr] at e2 h0;have ha:a=c:=h0;rw [List.dropWhile_cons_of_pos (by simp [ha])] at e2;have:=congrArg Zf e2
    have k3:=(YN ([c].contains ·) (l:=t)).length_le;simp only [ZV] at this;omega
 ·rintro ⟨h1,h2⟩;rw [hd l.reverse (by rw [hl];exact h2),List.reverse_reverse,hd l h1]
end Go.Proofs.YtmkkppknaikjjaaGreatDoor.L
namespace Go.Proofs.YtmkkppknaikjjaaGreatDoor
section
open Go.RowKit
theorem FW (x c:UInt8)(n:Int)(h:(c.toNat:Int)=n):(x != c)=((x.toNat:Int) != n):=by
 subst h;rw [Y7,bne_iff_ne,bne_iff_ne,ne_eq,ne_eq,← UInt8.toNat_inj];omega
theorem ahh:PB 336 L.AV:=by
 intro c w;obtain ⟨R,HR⟩:∃ R,Hid (L.AV c=R):=⟨_,Z9 rfl⟩;rw [HR.out];go_enter Tryz.func336,Tryz.ntmps336
 go_wp2_with (first | (go_at_call 190;refine (D9 c _).mono ?_;rintro e _ ⟨rfl,rfl⟩) | (go_at_call 193;refine (Ea c _).mono ?_;rintro e _ ⟨rfl,rfl⟩))
 all_goals (go_ret;refine ⟨fM ?_,rfl⟩;rw [← HR.out];unfold L.AV;rw [Y7];simp_all;try omega)
theorem ahi:PB 316 L.AU:=by
 intro c w;obtain ⟨R,HR⟩:∃ R,Hid (L.AU c=R):=⟨_,Z9 rfl⟩;rw [HR.out];go_enter Tryz.func316,Tryz.ntmps316
 go_wp2_with (first | (go_at_call 190;refine (D9 c _).mono ?_;rintro e _ ⟨rfl,rfl⟩) | (go_at_call 193;refine (Ea c _).mono ?_;rintro e _ ⟨rfl,rfl⟩))
 all_goals (go_ret;refine ⟨fM ?_,rfl⟩;rw [← HR.out];unfold L.AU;rw [Y7];simp_all;try omega)
theorem ahj:PB 318 L.lD:=by
 intro c w;obtain ⟨R,HR⟩:∃ R,Hid (L.lD c=R):=⟨_,Z9 rfl⟩;rw [HR.out];go_enter Tryz.func318,Tryz.ntmps318
 go_wp2_with (first | (go_at_call 319;refine (ahk c _).mono ?_;rintro e _ ⟨rfl,rfl⟩) | (go_at_call 193;refine (Ea c _).mono ?_;rintro e _ ⟨rfl,rfl⟩))
 all_goals (go_ret;refine ⟨fM ?_,rfl⟩;rw [← HR.out];unfold L.lD;rw [Y7];simp_all;try omega)
theorem ahl:PB 320 L.AX:=by
 intro c w;obtain ⟨R,HR⟩:∃ R,Hid (L.AX c=R):=⟨_,Z9 rfl⟩;rw [HR.out];go_enter Tryz.func320,Tryz.ntmps320
 go_wp2_with (first | (go_at_call 193;refine (Ea c _).mono ?_;rintro e _ ⟨rfl,rfl⟩))
 all_goals (go_ret;refine ⟨fM ?_,rfl⟩;rw [← HR.out];unfold L.AX;rw [Y7];simp_all;try omega)
theorem Oe (s:ByteArray)(h:0 < s.size):s.data.toList.getLastD 0=s[s.size - 1]:=by
 obtain ⟨⟨l⟩⟩:=s;cases l with
 | nil=>simp [ByteArray.size] at h
 | cons a t =>
  show List.getLastD (a::t) 0=(a::t)[(a::t).length - 1];rw [List.getLastD_eq_getLast?,List.getLast?_eq_getElem?,Z8 (by simp)];rfl
theorem SN (s:ByteArray)(w:World)(hs:s.size≤1000000000) :
  Calls Tryz.prog 289 #[.string s] w fun e w'=>e=.returned (.bool (L.sF s))∧w=w':=by
 obtain ⟨R,HR⟩:∃ R,Hid (L.sF s=R):=⟨_,Z9 rfl⟩;rw [HR.out];obtain ⟨M,HM⟩:∃ M,Hid (s.data.toList.all L.lD=M):=⟨_,Z9 rfl⟩;have Ha:Hid (∀ w,Calls Tryz.prog 191 #[.string s,.func (.func 318) #[] #[]] w fun e w'=>e=.returned (.bool M)∧w=w'):=fun w=>HM.out ▸ Bd _ _ ahj s w hs (fun _ _=>by kernel_rfl);go_enter Tryz.func289,Tryz.ntmps289
 go_wp2_with (first | (go_at_call 53;refine (nN _ _ _ _).mono ?_;rintro e _ ⟨rfl,rfl⟩) | (go_at_call 191;refine (Ha.out _).mono ?_;rintro e _ ⟨rfl,rfl⟩))
 all_goals (go_ret;refine ⟨fM ?_,rfl⟩;rw [← HR.out];unfold L.sF;rw [HM.out];clear HR Ha HM;simp_all;try omega)
theorem aaJ (s:ByteArray)(w:World)(hs:s.size≤1000000000) :
  Calls Tryz.prog 290 #[.string s] w fun e w'=>e=.returned (.bool (L.AZ s))∧w=w':=by
 obtain ⟨R,HR⟩:∃ R,Hid (L.AZ s=R):=⟨_,Z9 rfl⟩;rw [HR.out];obtain ⟨M,HM⟩:∃ M,Hid (s.data.toList.all L.AX=M):=⟨_,Z9 rfl⟩;have Ha:Hid (∀ w,Calls Tryz.prog 191 #[.string s,.func (.func 320) #[] #[]] w fun e w'=>e=.returned (.bool M)∧w=w'):=fun w=>HM.out ▸ Bd _ _ ahl s w hs (fun _ _=>by kernel_rfl);go_enter Tryz.func290,Tryz.ntmps290
 go_wp2_with (first | (go_at_call 191;refine (Ha.out _).mono ?_;rintro e _ ⟨rfl,rfl⟩))
 all_goals (go_ret;refine ⟨fM ?_,rfl⟩;rw [← HR.out];unfold L.AZ;rw [HM.out];clear HR Ha HM;simp_all;try omega)
theorem ahm (s:ByteArray)(w:World)(hs:s.size≤1000000000) :
  Calls Tryz.prog 317 #[.string s] w fun e w'=>e=.returned (.bool (L.kV s))∧w=w':=by
 obtain ⟨R,HR⟩:∃ R,Hid (L.kV s=R):=⟨_,Z9 rfl⟩;rw [HR.out];obtain ⟨M,HM⟩:∃ M,Hid (s.data.toList.all L.AV=M):=⟨_,Z9 rfl⟩;have Ha:Hid (∀ w,Calls Tryz.prog 191 #[.string s,.func (.func 336) #[] #[]] w fun e w'=>e=.returned (.bool M)∧w=w'):=fun w=>HM.out ▸ Bd _ _ ahh s w hs (fun _ _=>by kernel_rfl);by_cases hz:1≤s.size∧s.size≤30
 ·have e1:decide ((1:Int)≤s.size∧(s.size:Int)≤30)=true:=by simp;omega
  have Hh:=Z9 (Og s (by omega));have Hl:=Z9 (Oe s (by omega));have hz1:s.size - 1 < s.size:=by omega
  have hz0:0 < s.size:=by omega
  have ez:(s.size:Int) - 1=((s.size - 1:Nat):Int):=by omega
  go_enter Tryz.func317,Tryz.ntmps317
  go_wp2_with (first | (go_at_call 53;refine (nN _ _ _ _).mono ?_;rintro e _ ⟨rfl,rfl⟩;rw [e1]) | (go_at_call 191;refine (Ha.out _).mono ?_;rintro e _ ⟨rfl,rfl⟩))
  all_goals (go_ret;refine ⟨fM ?_,rfl⟩;rw [← HR.out];unfold L.kV L.ends;rw [HM.out,Hh.out,Hl.out,FW _ 45 45 rfl,FW _ 45 45 rfl];clear HR Ha HM Hh Hl;simp_all)
 ·have e1:decide ((1:Int)≤s.size∧(s.size:Int)≤30)=false:=by simp;omega
  have E2:Hid ((decide (1≤s.size) && decide (s.size≤30))=false):=by show _=_;simp;omega
  go_enter Tryz.func317,Tryz.ntmps317
  go_wp2_with (first | (go_at_call 53;refine (nN _ _ _ _).mono ?_;rintro e _ ⟨rfl,rfl⟩;rw [e1]))
  go_ret;exact ⟨fM (by rw [← HR.out,L.kV,E2.out];rfl),rfl⟩
theorem ahn (s p:ByteArray)(w:World):Calls Tryz.prog 216 #[.string s,.string p] w fun e w'=>e=.returned (.bool (Y1 s.data.toList p.data.toList))∧w=w':=(Tryz.strings_HasPrefix s p w).mono fun _ _ ⟨h1,h2⟩=>⟨h1,h2.symm⟩
theorem ext1 (s:ByteArray):(s.extract 1 s.size).data.toList=s.data.toList.drop 1:=by
 rw [Lib.extract_data,List.take_of_length_le (by rw [ZK,← Lib.size_eq];omega)]
theorem aho (s:ByteArray)(h:1 < s.size):(s.data.toList.drop 1).headD 0=s[1]:=by
 obtain ⟨⟨l⟩⟩:=s;match l,h with
 | a::b::t,_=>rfl
 | [a],h=>simp [ByteArray.size] at h
 | [],h=>simp [ByteArray.size] at h
theorem aaK (s:ByteArray)(w:World)(hs:s.size≤1000000000) :
  Calls Tryz.prog 288 #[.string s] w fun e w'=>e=.returned (.bool (L.ug s))∧w=w':=by
 obtain ⟨R,HR⟩:∃ R,Hid (L.ug s=R):=⟨_,Z9 rfl⟩;rw [HR.out];obtain ⟨M,HM⟩:∃ M,Hid ((s.data.toList.drop 1).all L.isDigit=M):=⟨_,Z9 rfl⟩;obtain ⟨P,HP⟩:∃ P,Hid (Y1 s.data.toList [43]=P):=⟨_,Z9 rfl⟩;have Hp:Hid (∀ w,Calls Tryz.prog 216 #[.string s,.string ⟨#[43]⟩] w fun e w'=>e=.returned (.bool P)∧w=w'):=fun w=>HP.out ▸ ahn s ⟨#[43]⟩ w;have Ha:Hid (∀ w,Calls Tryz.prog 191 #[.string (s.extract 1 s.size),.func (.func 193) #[] #[]] w fun e w'=>e=.returned (.bool M)∧w=w'):=fun w=>HM.out ▸ ext1 s ▸ Bd _ _ Ea (s.extract 1 s.size) w (by rw [ByteArray.size_extract];omega) (fun _ _=>by kernel_rfl);by_cases hz:8≤s.size∧s.size≤16
 ·have e1:decide ((8:Int)≤s.size∧(s.size:Int)≤16)=true:=by simp;omega
  have E2:Hid ((decide (8≤s.size) && decide (s.size≤16))=true):=by show _=_;simp;omega
  have Hh:=Z9 (aho s (by omega));have hz1:1 < s.size:=by omega
  have hz0:1≤s.size:=by omega
  go_enter Tryz.func288,Tryz.ntmps288
  go_wp2_with (first | (go_at_call 216;refine (Hp.out _).mono ?_;rintro e _ ⟨rfl,rfl⟩) | (go_at_call 53;refine (nN _ _ _ _).mono ?_;rintro e _ ⟨rfl,rfl⟩;rw [e1]) | (go_at_call 191;refine (Ha.out _).mono ?_;rintro e _ ⟨rfl,rfl⟩))
  all_goals (go_ret;refine ⟨fM ?_,rfl⟩;rw [← HR.out];unfold L.ug;rw [Bool.and_assoc (Y1 _ _),E2.out,HM.out,HP.out,Hh.out,FW _ 48 48 rfl];clear HR Ha HM Hh Hp HP;simp_all)
 ·have e1:decide ((8:Int)≤s.size∧(s.size:Int)≤16)=false:=by simp;omega
  have E2:Hid ((decide (8≤s.size) && decide (s.size≤16))=false):=by show _=_;simp;omega
  go_enter Tryz.func288,Tryz.ntmps288
  go_wp2_with (first | (go_at_call 216;refine (Hp.out _).mono ?_;rintro e _ ⟨rfl,rfl⟩) | (go_at_call 53;refine (nN _ _ _ _).mono ?_;rintro e _ ⟨rfl,rfl⟩;rw [e1]))
  all_goals (go_ret;exact ⟨fM (by rw [← HR.out,L.ug,Bool.and_assoc (Y1 _ _),E2.out];simp),rfl⟩)
def gG (w:World):Prop:=∃ m:Int,w.cell? ⟨2,0,none⟩=some (.int .i64 m)
theorem gG.below {w w':World}(h:gG w)(k:Below w.heap.size w w'):gG w':=by
 obtain ⟨m,hm⟩:=h;exact ⟨m,by rw [k.cell (p:=⟨2,0,none⟩) (World.block_lt_of_cell? w _ hm)];exact hm⟩
theorem aaL (s:ByteArray)(w:World)(hs:s.size≤1000000000)(hM:gG w)(sep:ByteArray) :
  Calls Tryz.prog 99 #[.string s,.string sep] w fun e w'=>e=.returned (.tuple #[.string ⟨(YR s.data.toList sep.data.toList).1.toArray⟩,.string ⟨(YR s.data.toList sep.data.toList).2.1.toArray⟩,.bool (YR s.data.toList sep.data.toList).2.2])∧Below w.heap.size w w':=by
 obtain ⟨m,hm⟩:=hM;exact (Tryz.strings_Cut s sep m w (by omega) hm).mono fun e w' ⟨h1,n,h2⟩=>⟨h1,by subst h2;exact ⟨rfl,rfl,rfl,Z5 _,fun _ _=>rfl⟩⟩
theorem aaM (s sub:ByteArray)(w:World)(hs:s.size≤1000000000)(hM:gG w) :
  Calls Tryz.prog 103 #[.string s,.string sub] w fun e w'=>e=.returned (.bool (Lib.contains s.data.toList sub.data.toList))∧w=w':=by
 obtain ⟨m,hm⟩:=hM;exact (Tryz.strings_Contains s sub m w (by omega) hm).mono fun e w' ⟨h1,h2⟩=>⟨h1,h2.symm⟩
theorem aaN (l sep:List UInt8):(YR l sep).1.length≤l.length∧(YR l sep).2.1.length≤l.length:=by
 unfold YR;split
 ·simp only [ZR,ZK];omega
 ·simp
theorem SS (sep:ByteArray):∀ (k:Nat) (s:ByteArray) (x:ByteArray),x∈Lib.splitB sep 0 k s→x.size≤s.size
 | 0,s,x,h=>by
  rw [Lib.splitB_zero,YB] at h;rw [h];exact Z5 _
 | k + 1,s,x,h=>by
  unfold Lib.splitB at h;split at h
  ·rw [YB] at h;rw [h];exact Z5 _
  ·rcases List.mem_cons.1 h with rfl | h
   ·rw [ByteArray.size_extract];omega
   ·have:=SS sep k _ x h
    rw [ByteArray.size_extract] at this;omega
def ahp (d:ByteArray)(w:World)(e:Ending)(w':World):Prop:=∃ blk c,e=.returned (.slice (some ⟨blk,0,none⟩) (L.labels d).length c)∧blk < w'.heap.size∧(∀ i x,(L.labels d)[i]? =some x→w'.cell? ⟨blk,i,none⟩=some (.string x))∧Below w.heap.size w w'
theorem aaO (d:ByteArray)(w:World)(hd:d.size≤1000000000)(hM:gG w) :
  Calls Tryz.prog 100 #[.string d,.string ⟨#[46]⟩] w (ahp d w):=by
 obtain ⟨m,hm⟩:=hM;refine (Tryz.strings_Split d ⟨#[46]⟩ m w (by omega) hm (by decide)).mono ?_;rintro e w' ⟨rfl,rfl⟩;have hl:(L.labels d).length=Lib.countB d ⟨#[46]⟩ + 1:=Lib.splitB_all ⟨#[46]⟩ (by decide) 0 _ d rfl;refine ⟨w.heap.size,_,by rw [hl],by simp,fun i x hx=>?_,(ZX _ _).alloc (Z5 _) _⟩;rw [World.cell?_alloc_at _ _ _ _ rfl];have hx':(Lib.splitB ⟨#[46]⟩ 0 (Lib.countB d ⟨#[46]⟩) d)[i]? =some x:=hx;simp [hx']
end
section
open Go.RowKit
theorem aaP (s:ByteArray)(c:UInt8)(w:World):Calls Tryz.prog 189 #[.string s,.int .u8 (c.toNat:Int)] w fun e w'=>e=.returned (.int .i64 (YF s.data.toList c))∧w=w' :=
 (Tryz.strings_IndexByte s c.toNat w).mono fun e w' ⟨h1,h2⟩=>⟨by rw [h1];simp,h2.symm⟩
theorem aaQ (n:Nat)(h:n < (⟨#[48,49,50,51,52,53,54,55,56,57,65,66,67,68,69,70,71,72,73,74,75,76,77,78,79,80,81,82,83,84,85,86,87,88,89,90]⟩:ByteArray).size):(⟨#[48,49,50,51,52,53,54,55,56,57,65,66,67,68,69,70,71,72,73,74,75,76,77,78,79,80,81,82,83,84,85,86,87,88,89,90]⟩:ByteArray)[n]=L.yQ n:=by
 have:∀ i:Fin 36,(⟨#[48,49,50,51,52,53,54,55,56,57,65,66,67,68,69,70,71,72,73,74,75,76,77,78,79,80,81,82,83,84,85,86,87,88,89,90]⟩:ByteArray)[i.val]'i.isLt=L.yQ i.val:=by decide +kernel
 exact this ⟨n,h⟩
theorem ahq (s:ByteArray)(w:World)(hs:s.size≤1000)(hmb:s.data.toList.all L.lD=true) :
  Calls Tryz.prog 291 #[.string s] w fun e w'=>e=.returned (.int .u8 ((L.yQ (L.qC s.data.toList)).toNat:Int))∧w=w':=by
 have Fp:=Z9 hmb;have hsum:=L.SL s.data.toList hmb;rw [show s.data.toList.length=s.size from rfl] at hsum;clear hmb;obtain ⟨R,HR⟩:∃ R,Hid (L.qC s.data.toList=R):=⟨_,Z9 rfl⟩;rw [HR.out];obtain ⟨T,HT⟩:∃ T,Hid (L.sJ s.data.toList=T):=⟨_,Z9 rfl⟩;rw [HT.out] at hsum;have HR2:Hid (R=(36 - T % 36) % 36):=by show _=_;rw [← HR.out,L.qC,HT.out]
 clear HR;go_enter Tryz.func291,Tryz.ntmps291
 go_wp2_with fail
 go_loopw [3,4,5] (fun a b i wr=>∃ (k u t:Nat),k≤s.size∧i=.int .i64 ((k:Int) - 1)∧a=.int .i64 u∧L.sJ (s.data.toList.drop k)=u∧u≤36 * (s.size - k)∧b=.int .i64 (t:Int)∧t=(if (s.size - k) % 2=0 then 2 else 1)∧wr=w) (fun _ _ i _=>(intOf i + 1).toNat)
 case atStart=>exact ⟨s.size,0,2,Z5 _,rfl,rfl,by rw [show s.data.toList.drop s.size=[] from ZJ (Z5 s.size)];rfl,by omega,rfl,by simp,rfl⟩
 case round =>
  obtain ⟨k,u,t,hk,rfl,rfl,hu,hu2,rfl,ht,rfl⟩:=hrel;have Hu:=Z9 hu;have Ht:=Z9 ht;clear hu ht;by_cases h0:k=0
  ·subst h0;have Hx:Hid (u=T):=by show _=_;rw [← Hu.out,List.drop_zero,HT.out]
   have aaR:R < 36:=by rw [HR2.out];omega
   have e1:(36:Int) - (u:Int) % 36=((36 - u % 36:Nat):Int):=by omega
   have e2:((36 - u % 36:Nat):Int) % 36=(R:Int):=by rw [HR2.out,← Hx.out];omega
   have Hs:=Z9 (aaQ R aaR);clear Hx;go_wp2_with fail
   go_ret;exact ⟨by rw [← Hs.out];rfl,rfl⟩
  ·obtain ⟨j,rfl⟩:∃ j,k=j + 1:=⟨k - 1,by omega⟩;have ej:((j + 1:Nat):Int) - 1=(j:Int):=by omega
   rw [ej];have hjs:j < s.size:=by omega
   have hjl:j < s.data.toList.length:=hjs;have hmj:L.lD s[j]=true:=List.all_eq_true.1 Fp.out _ (List.getElem_mem (l:=s.data.toList) hjl);have hlt:=L.SI s[j] hmj;have bP:Hid (L.sJ (s.data.toList.drop j)=L.sH (if (s.size - (j + 1)) % 2=0 then 2 * L.qW s[j] else L.qW s[j]) + u):=by
    show _=_;rw [Zz hjl,L.sJ,Hu.out,ZK];rfl
   obtain ⟨v,hv⟩:∃ v:Nat,YF L.signs s[j]=(v:Int):=Zi hlt.1;have ahr:v < 36:=by omega
   have SV:Hid (L.qW s[j]=v):=by show _=_;rw [L.qW,hv];rfl
   have jP:Hid (∀ w,Calls Tryz.prog 189 #[.string ⟨#[48,49,50,51,52,53,54,55,56,57,65,66,67,68,69,70,71,72,73,74,75,76,77,78,79,80,81,82,83,84,85,86,87,88,89,90]⟩,.int .u8 (s[j].toNat:Int)] w fun e w'=>e=.returned (.int .i64 (v:Int))∧w=w'):=fun w=>hv ▸ aaP ⟨#[48,49,50,51,52,53,54,55,56,57,65,66,67,68,69,70,71,72,73,74,75,76,77,78,79,80,81,82,83,84,85,86,87,88,89,90]⟩ s[j] w;have hq:=L.Oc (2 * v) (by omega);clear hv hlt hmj h0 Hu ej;rw [SV.out] at bP;by_cases hp:(s.size - (j + 1)) % 2=0
   ·rw [if_pos hp] at bP;have Hp:=Z9 hp;obtain rfl:2=t:=by rw [Ht.out,if_pos hp]
    clear hp Ht hq;go_wp2_with fail
    refine (jP.out _).mono ?_;rintro e _ ⟨rfl,rfl⟩;clear jP;go_wp2_with fail
    go_roundw
    case rel=>exact ⟨j,u + L.sH (2 * v),1,by omega,by go_num,by unfold L.sH;go_num,by rw [bP.out,Nat.add_comm],by have:=L.Oc (2 * v) (by omega);omega,rfl,by rw [if_neg (by have:=Hp.out;omega)],trivial⟩
    case measure=>simp [intOf]
   ·rw [if_neg hp] at bP;have Hp:=Z9 hp;obtain rfl:1=t:=by rw [Ht.out,if_neg hp]
    clear hp Ht hq;go_wp2_with fail
    refine (jP.out _).mono ?_;rintro e _ ⟨rfl,rfl⟩;clear jP;go_wp2_with fail
    go_roundw
    case rel=>exact ⟨j,u + L.sH v,2,by omega,by go_num,by unfold L.sH;go_num,by rw [bP.out,Nat.add_comm],by have:=L.Oc v (by omega);omega,rfl,by rw [if_pos (by have:=Hp.out;omega)],trivial⟩
    case measure=>simp [intOf]
theorem ahs (s:ByteArray)(w:World)(hs:s.size≤1000000)(hM:gG w) :
  Calls Tryz.prog 287 #[.string s] w fun e w'=>e=.returned (.bool (L.AY s))∧Below w.heap.size w w':=by
 have HM:=Z9 hM;have hcl:=aaN s.data.toList [64];have yu:Hid (∀ w,gG w→Calls Tryz.prog 99 #[.string s,.string ⟨#[64]⟩] w fun e w'=>e=.returned (.tuple #[.string ⟨(YR s.data.toList [64]).1.toArray⟩,.string ⟨(YR s.data.toList [64]).2.1.toArray⟩,.bool (YR s.data.toList [64]).2.2])∧Below w.heap.size w w'):=fun w h=>aaL s w (by omega) h ⟨#[64]⟩;unfold L.AY at *;generalize YR s.data.toList [64]=ct at *;obtain ⟨ll,dl,ok⟩:=ct;dsimp only at *
 have hlo:(ByteArray.mk ll.toArray).size≤1000000:=ZE hcl.1 hs;have hdo:(ByteArray.mk dl.toArray).size≤1000000:=ZE hcl.2 hs;clear hM hcl;generalize ByteArray.mk ll.toArray=lo at *;generalize ByteArray.mk dl.toArray=dom at *;obtain ⟨R,HR⟩:∃ R,Hid ((ok && decide (s.size≤80) && L.uf lo && (L.labels dom).all L.kV && decide (2≤(L.labels dom).length))=R):=⟨_,Z9 rfl⟩;rw [HR.out];obtain ⟨C,HC⟩:∃ C,Hid (Lib.contains lo.data.toList [46,46]=C):=⟨_,Z9 rfl⟩;obtain ⟨M,HB⟩:∃ M,Hid (lo.data.toList.all L.AU=M):=⟨_,Z9 rfl⟩;have JX:Hid (∀ w,gG w→Calls Tryz.prog 103 #[.string lo,.string ⟨#[46,46]⟩] w fun e w'=>e=.returned (.bool C)∧w=w'):=fun w h=>HC.out ▸ aaM lo ⟨#[46,46]⟩ w (by omega) h;have Oh:Hid (∀ w,Calls Tryz.prog 191 #[.string lo,.func (.func 316) #[] #[]] w fun e w'=>e=.returned (.bool M)∧w=w'):=fun w=>HB.out ▸ Bd _ _ ahi lo w (by omega) (fun _ _=>by kernel_rfl);by_cases hz:1≤lo.size∧lo.size≤64
 ·have e1:decide ((1:Int)≤lo.size∧(lo.size:Int)≤64)=true:=by simp;omega
  have Hh:=Z9 (Og lo (by omega));have Hl:=Z9 (Oe lo (by omega));have hz1:lo.size - 1 < lo.size:=by omega
  have hz0:0 < lo.size:=by omega
  have ez:(lo.size:Int) - 1=((lo.size - 1:Nat):Int):=by omega
  have aaS:Hid (L.uf lo=(((lo[0].toNat:Int) != 46) && ((lo[lo.size - 1].toNat:Int) != 46) && !C && M)):=by
   show _=_;unfold L.uf L.ends;rw [HC.out,HB.out,Hh.out,Hl.out,FW _ 46 46 rfl,FW _ 46 46 rfl];simp [hz]
  clear Hh Hl HC HB;rw [aaS.out] at HR;clear aaS;go_enter Tryz.func287,Tryz.ntmps287
  go_wp2_with fail
  refine (yu.out _ HM.out).mono ?_;rintro e w1 ⟨rfl,bH⟩;have kH:=bH.size;have xw:=Z9 (HM.out.below bH);have Hb1:=Z9 bH;clear bH yu HM;go_wp2_with (first | (go_at_call 53;refine (nN _ _ _ _).mono ?_;rintro e _ ⟨rfl,rfl⟩;rw [e1]) | (go_at_call 191;refine (Oh.out _).mono ?_;rintro e _ ⟨rfl,rfl⟩) | (go_at_call 103;refine (JX.out _ xw.out).mono ?_;rintro e _ ⟨rfl,rfl⟩))
  all_goals try
   go_ret;refine ⟨fM ?_,Hb1.out⟩;rw [← HR.out];clear HR;first
    | (simp_all;done)
    | (have h80:¬ s.size≤80:=by omega
       simp [h80];done)
    | (have hC:C=true:=by
        have hh:((80 < (s.size:Int)∨((lo[0].toNat:Int)==46)=true)∨((lo[lo.size - 1].toNat:Int)==46)=true)∨C=true:=by assumption
        rcases hh with ((h | h) | h) | h
        ·omega
        ·exact absurd (by simpa using h) ‹¬ (lo[0].toNat:Int)=46›
        ·exact absurd (by simpa using h) ‹¬ (lo[lo.size - 1].toNat:Int)=46›
        ·exact h
       simp [hC];done)
  have hfin:ok=true∧s.size≤80∧(lo[0].toNat:Int)≠46∧(lo[lo.size - 1].toNat:Int)≠46∧C=false∧M=true:=by
   refine ⟨by assumption,by omega,by assumption,by assumption,by simp_all,by simp_all⟩
  have HR2:Hid (((L.labels dom).all L.kV && decide (2≤(L.labels dom).length))=R):=by
   show _=_;rw [← HR.out];obtain ⟨h1,h2,h3,h4,h5,h6⟩:=hfin;have h3':((lo[0].toNat:Int) != 46)=true:=by simpa using h3
   have h4':((lo[lo.size - 1].toNat:Int) != 46)=true:=by simpa using h4
   rw [h1,h3',h4',h5,h6];simp [h2]
  clear hfin HR;refine (aaO dom _ (by omega) xw.out).mono ?_;rintro e w2 ⟨blk,c,rfl,hblk,hcell,hl2⟩;have Cj:Hid (∀ x∈L.labels dom,x.size≤1000000):=fun x hx=>ZE (SS _ _ _ x hx) hdo;have hlen:(L.labels dom).length≤1000001:=ZE (Lib.splitB_length_le _ _ _ _) (by have:=Lib.countB_le ⟨#[46]⟩ (by decide) dom.size dom (Z5 _);omega);have Hc:=Z9 hcell;have Hb2:Hid (Below w.heap.size w w2):=Hb1.out.trans (hl2.mono kH);clear hcell hl2 Hb1 xw Oh JX e1 ez;generalize L.labels dom=ls at *;go_wp2_with fail
  go_loopw [52] (fun i wr=>∃ k:Nat,k≤ls.length∧i=.int .i64 k∧wr=w2∧((ls.drop k).all L.kV && decide (2≤ls.length))=R) (fun i _=>ls.length - (intOf i).toNat)
  case atStart=>exact ⟨0,ZN _,rfl,rfl,HR2.out⟩
  case round =>
   obtain ⟨k,hk,rfl,rfl,hr⟩:=hrel;have Hr:=Z9 hr;clear hr HR2;by_cases hlt:k < ls.length
   ·obtain ⟨x,hx⟩:∃ x,ls[k]? =some x:=⟨_,Z8 hlt⟩;have hcx:=Hc.out k x hx;have hxs:=Cj.out x (Z7 hx);have Hs:Hid (((L.kV x && (ls.drop (k + 1)).all L.kV) && decide (2≤ls.length))=R):=by
     show _=_;rw [← Hr.out,Zz hlt,List.all_cons];have:ls[k]=x:=by simpa [Z8 hlt] using hx
     rw [this]
    clear hx Hr;go_wp2_with fail
    refine (ahm x _ (by omega)).mono ?_;rintro e _ ⟨rfl,rfl⟩;by_cases hp:L.kV x=true
    ·rw [hp] at Hs ⊢;clear hp;go_wp2_with fail
     go_roundw
     case rel=>exact ⟨k + 1,by omega,by go_num,trivial,by rw [← Hs.out];simp⟩
     case measure=>simp [intOf];omega
    ·have hp':L.kV x=false:=by simpa using hp
     rw [hp'] at Hs ⊢;clear hp hp';go_wp2_with fail
     go_ret;exact ⟨fM (by rw [← Hs.out];simp),Hb2.out⟩
   ·go_wp2_with fail
    go_ret;exact ⟨fM (by rw [← Hr.out,ZJ (by omega)];rw [Y7];simp;omega),Hb2.out⟩
 ·have e1:decide ((1:Int)≤lo.size∧(lo.size:Int)≤64)=false:=by simp;omega
  have E2:Hid (L.uf lo=false):=by
   show _=_;have:(decide (1≤lo.size) && decide (lo.size≤64))=false:=by simp;omega
   unfold L.uf;rw [this];rfl
  rw [E2.out] at HR;go_enter Tryz.func287,Tryz.ntmps287
  go_wp2_with fail
  refine (yu.out _ HM.out).mono ?_;rintro e w1 ⟨rfl,bH⟩;have kH:=bH.size;go_wp2_with (first | (go_at_call 53;refine (nN _ _ _ _).mono ?_;rintro e _ ⟨rfl,rfl⟩;rw [e1]))
  all_goals (go_ret;refine ⟨fM ?_,bH⟩;rw [← HR.out];simp)
theorem aaT (s:ByteArray)(_:0 < s.size):(s.extract 0 (s.size - 1)).data.toList=s.data.toList.dropLast:=by
 rw [Lib.extract_from_zero,List.dropLast_eq_take];rfl
theorem afU (k:Int)(s:ByteArray)(w:World)(hs:s.size≤1000000)(hM:gG w) :
  Calls Tryz.prog 219 #[.agg #[.int .i64 k,.string s]] w fun e w'=>e=.returned (.int .i64 (L.iq k s))∧Below w.heap.size w w':=by
 have HM:=Z9 hM;clear hM;obtain ⟨R,HR⟩:∃ R,Hid (L.iq k s=R):=⟨_,Z9 rfl⟩;rw [HR.out];have Hb:Hid (Below w.heap.size w (w.alloc (.cells #[.int .i64 k,.string s] 46))):=(ZX _ _).alloc (Z5 _) _;by_cases h1:k=1
 ·subst h1;have HR2:Hid ((if L.AY s then (0:Int) else 3)=R):=by show _=_;rw [← HR.out,L.iq,if_pos rfl]
  clear HR;go_enter Tryz.func219,Tryz.ntmps219
  go_wp2_with fail
  refine (ahs s _ hs (HM.out.below Hb.out)).mono ?_;rintro e w1 ⟨rfl,bH⟩;have kH:=bH.size;have Hb1:=Z9 (Hb.out.trans (bH.mono (by simp)));have q1:w1.cell? ⟨w.heap.size,0,none⟩=some (.int .i64 1):=by rw [bH.cell (p:=⟨w.heap.size,0,none⟩) (by simp),World.cell?_alloc_at _ _ _ _ rfl];rfl
  have q2:w1.cell? ⟨w.heap.size,1,none⟩=some (.string s):=by rw [bH.cell (p:=⟨w.heap.size,1,none⟩) (by simp),World.cell?_alloc_at _ _ _ _ rfl];rfl
  clear bH Hb HM;by_cases hp:L.AY s=true
  ·rw [hp] at HR2 ⊢;clear hp;go_wp2_with fail
   go_quiet (fail)
   go_wp2_with fail
   go_ret;exact ⟨aH (by rw [← HR2.out];rfl),Hb1.out.trans (below_drewN _ _ _)⟩
  ·have hp':L.AY s=false:=by simpa using hp
   rw [hp'] at HR2 ⊢;clear hp hp';go_wp2_with fail
   go_ret;exact ⟨aH (by rw [← HR2.out];rfl),Hb1.out⟩
 ·by_cases h2:k=2
  ·subst h2;clear h1;have HR2:Hid ((if L.ug s then (0:Int) else 3)=R):=by show _=_;rw [← HR.out,L.iq];simp
   clear HR HM;by_cases hp:L.ug s=true
   ·rw [hp] at HR2;go_enter Tryz.func219,Tryz.ntmps219
    go_wp2_with fail
    refine (aaK s _ (by omega)).mono ?_;rintro e _ ⟨rfl,rfl⟩;rw [hp];clear hp;go_wp2_with fail
    go_quiet (fail)
    go_wp2_with fail
    go_ret;exact ⟨aH (by rw [← HR2.out];rfl),Hb.out.trans (below_drewN _ _ _)⟩
   ·have hp':L.ug s=false:=by simpa using hp
    rw [hp'] at HR2;go_enter Tryz.func219,Tryz.ntmps219
    go_wp2_with fail
    refine (aaK s _ (by omega)).mono ?_;rintro e _ ⟨rfl,rfl⟩;rw [hp'];clear hp hp';go_wp2_with fail
    go_ret;exact ⟨aH (by rw [← HR2.out];rfl),Hb.out⟩
  ·by_cases h4:k=4
   ·subst h4;clear h1 h2;have HR2:Hid ((if L.AZ s then (0:Int) else 3)=R):=by show _=_;rw [← HR.out,L.iq];simp
    clear HR HM;by_cases hp:L.AZ s=true
    ·rw [hp] at HR2;go_enter Tryz.func219,Tryz.ntmps219
     go_wp2_with fail
     refine (aaJ s _ (by omega)).mono ?_;rintro e _ ⟨rfl,rfl⟩;rw [hp];clear hp;go_wp2_with fail
     go_quiet (fail)
     go_wp2_with fail
     go_ret;exact ⟨aH (by rw [← HR2.out];rfl),Hb.out.trans (below_drewN _ _ _)⟩
    ·have hp':L.AZ s=false:=by simpa using hp
     rw [hp'] at HR2;go_enter Tryz.func219,Tryz.ntmps219
     go_wp2_with fail
     refine (aaJ s _ (by omega)).mono ?_;rintro e _ ⟨rfl,rfl⟩;rw [hp'];clear hp hp';go_wp2_with fail
     go_ret;exact ⟨aH (by rw [← HR2.out];rfl),Hb.out⟩
   ·by_cases h3:k=3
    ·subst h3;clear h1 h2 h4 HM;have HR2:Hid ((if L.sF s then (if L.yQ (L.qC s.data.toList.dropLast)=s.data.toList.getLastD 0 then (0:Int) else 15) else 3)=R):=by show _=_;rw [← HR.out,L.iq];simp
     clear HR;by_cases hp:L.sF s=true
     ·rw [hp,if_pos rfl] at HR2;have hmo:(4≤s.size∧s.size≤20)∧s.data.toList.all L.lD=true:=by
       unfold L.sF at hp;simp only [ZQ,decide_eq_true_eq] at hp;exact hp
      obtain ⟨⟨hm4,al9⟩,hmb⟩:=hmo;have hdl:=aaT s (by omega);have hme:(s.extract 0 (s.size - 1)).data.toList.all L.lD=true:=by
       rw [hdl,List.all_eq_true];exact fun x hx=>List.all_eq_true.1 hmb x (List.dropLast_subset _ hx)
      have AQ:Hid (∀ w,Calls Tryz.prog 291 #[.string (s.extract 0 (s.size - 1))] w fun e w'=>e=.returned (.int .u8 ((L.yQ (L.qC s.data.toList.dropLast)).toNat:Int))∧w'=w):=fun w=>(ahq _ w (by rw [ByteArray.size_extract];omega) hme).mono fun e w' ⟨a,b⟩=>⟨by rw [a,hdl],b.symm⟩;rw [Oe s (by omega)] at HR2;generalize L.yQ (L.qC s.data.toList.dropLast)=sg at *;have hz1:s.size - 1 < s.size:=by omega
      have ez:(s.size:Int) - 1=((s.size - 1:Nat):Int):=by omega
      have hz2:s.size - 1≤s.size:=by omega
      clear hmb hdl hme;by_cases hq:sg=s[s.size - 1]
      ·rw [if_pos hq] at HR2;have e3:((sg.toNat:Int) != (s[s.size - 1].toNat:Int))=false:=by rw [hq];simp
       clear hq;go_enter Tryz.func219,Tryz.ntmps219
       go_wp2_with fail
       refine (SN s _ (by omega)).mono ?_;rintro e _ ⟨rfl,rfl⟩;rw [hp];clear hp;go_wp2_with fail
       go_quiet ((go_at_call 291;exact Calls.quiet_of_same (AQ.out _)))
       go_wp2_with fail
       go_ret;exact ⟨aH (by rw [← HR2.out]),Hb.out.trans (below_drewN _ _ _)⟩
      ·rw [if_neg hq] at HR2;have e3:((sg.toNat:Int) != (s[s.size - 1].toNat:Int))=true:=by
        rw [bne_iff_ne];intro h;exact hq (UInt8.toNat_inj.1 (by omega))
       clear hq;go_enter Tryz.func219,Tryz.ntmps219
       go_wp2_with fail
       refine (SN s _ (by omega)).mono ?_;rintro e _ ⟨rfl,rfl⟩;rw [hp];clear hp;go_wp2_with fail
       go_quiet ((go_at_call 291;exact Calls.quiet_of_same (AQ.out _)))
       go_wp2_with fail
       go_ret;exact ⟨aH (by rw [← HR2.out]),Hb.out.trans (below_drewN _ _ _)⟩
     ·have hp':L.sF s=false:=by simpa using hp
      rw [hp'] at HR2;go_enter Tryz.func219,Tryz.ntmps219
      go_wp2_with fail
      refine (SN s _ (by omega)).mono ?_;rintro e _ ⟨rfl,rfl⟩;rw [hp'];clear hp hp';go_wp2_with fail
      go_ret;exact ⟨aH (by rw [← HR2.out];rfl),Hb.out⟩
    ·have e1:(k==1)=false:=by simpa using h1
     have e2:(k==2)=false:=by simpa using h2
     have e3:(k==3)=false:=by simpa using h3
     have e4:(k==4)=false:=by simpa using h4
     go_enter Tryz.func219,Tryz.ntmps219
     go_wp2_with fail
     go_ret;exact ⟨aH (by rw [← HR.out,L.iq,if_neg h1,if_neg h2,if_neg h3,if_neg h4]),Hb.out⟩
end
section
open Go.RowKit
theorem aht (s:ByteArray)(w:World)(hs:s.size≤1000)(hmb:s.data.toList.all L.lD=true) :
  Calls Tryz.prog 105 #[.string s] w fun e w'=>e=.returned (.int .i64 (L.qC s.data.toList:Int))∧w'=w:=by
 have Fp:=Z9 hmb;have hsum:=L.SL s.data.toList hmb;rw [show s.data.toList.length=s.size from rfl] at hsum;clear hmb;obtain ⟨R,HR⟩:∃ R,Hid (L.qC s.data.toList=R):=⟨_,Z9 rfl⟩;rw [HR.out];obtain ⟨T,HT⟩:∃ T,Hid (L.sJ s.data.toList=T):=⟨_,Z9 rfl⟩;rw [HT.out] at hsum;have HR2:Hid (R=(36 - T % 36) % 36):=by show _=_;rw [← HR.out,L.qC,HT.out]
 clear HR;go_enter Tryz.func105,Tryz.ntmps105
 go_wp2_with fail
 go_loopw [3,9] (fun a i wr=>∃ (k u:Nat),k≤s.size∧i=.int .i64 k∧a=.int .i64 u∧u + L.sJ (s.data.toList.drop k)=T∧wr=w) (fun _ i _=>s.size - (intOf i).toNat)
 case atStart=>exact ⟨0,0,ZN _,rfl,rfl,by rw [List.drop_zero,HT.out,Zh],rfl⟩
 case round =>
  obtain ⟨k,u,hk,rfl,rfl,hu,rfl⟩:=hrel;have hu2:u≤36 * s.size:=by omega
  have Hu:=Z9 hu;clear hu;by_cases hlt:k < s.size
  ·have hkl:k < s.data.toList.length:=hlt;have hmj:L.lD s[k]=true:=List.all_eq_true.1 Fp.out _ (List.getElem_mem (l:=s.data.toList) hkl);have hlt2:=L.SI s[k] hmj;have bP:Hid (u + (L.sH (if (s.size - (k + 1)) % 2=0 then 2 * L.qW s[k] else L.qW s[k]) + L.sJ (s.data.toList.drop (k + 1)))=T):=by
    show _=_;rw [← Hu.out,Zz hkl,L.sJ,ZK];rfl
   obtain ⟨v,hv⟩:∃ v:Nat,YF L.signs s[k]=(v:Int):=Zi hlt2.1;have ahr:v < 36:=by omega
   have SV:Hid (L.qW s[k]=v):=by show _=_;rw [L.qW,hv];rfl
   have jP:Hid (∀ w,Calls Tryz.prog 189 #[.string ⟨#[48,49,50,51,52,53,54,55,56,57,65,66,67,68,69,70,71,72,73,74,75,76,77,78,79,80,81,82,83,84,85,86,87,88,89,90]⟩,.int .u8 (s[k].toNat:Int)] w fun e w'=>e=.returned (.int .i64 (v:Int))∧w=w'):=fun w=>hv ▸ aaP ⟨#[48,49,50,51,52,53,54,55,56,57,65,66,67,68,69,70,71,72,73,74,75,76,77,78,79,80,81,82,83,84,85,86,87,88,89,90]⟩ s[k] w;have ek:(s.size:Int) - (k:Int)=((s.size - k:Nat):Int):=by omega
   rw [SV.out] at bP;clear hv hlt2 hmj Hu;by_cases hp:(s.size - (k + 1)) % 2=0
   ·rw [if_pos hp] at bP;have ep:(((s.size - k:Nat):Int) % 2==1)=true:=by simp;omega
    clear hp;go_wp2_with fail
    refine (jP.out _).mono ?_;rintro e _ ⟨rfl,rfl⟩;clear jP;go_wp2_with fail
    go_roundw
    case rel=>exact ⟨k + 1,u + L.sH (2 * v),by omega,by go_num,by unfold L.sH;go_num,by rw [← bP.out];omega,trivial⟩
    case measure=>simp [intOf];omega
   ·rw [if_neg hp] at bP;have ep:(((s.size - k:Nat):Int) % 2==1)=false:=by simp;omega
    clear hp;go_wp2_with fail
    refine (jP.out _).mono ?_;rintro e _ ⟨rfl,rfl⟩;clear jP;go_wp2_with fail
    go_roundw
    case rel=>exact ⟨k + 1,u + L.sH v,by omega,by go_num,by unfold L.sH;go_num,by rw [← bP.out];omega,trivial⟩
    case measure=>simp [intOf];omega
  ·have Hx:Hid (u=T):=by show _=_;rw [← Hu.out,show s.data.toList.drop k=[] from ZJ (by show s.size≤k;omega)];rfl
   clear Hu;go_wp2_with fail
   obtain ⟨wo,hwo⟩:∃ wo:World,wo=wr:=⟨_,rfl⟩;subst hwo;go_loopw [32] (fun i wi=>∃ c:Nat,c≤R∧i=.int .i64 c∧wi=wo) (fun i _=>36 - (intOf i).toNat)
   case atStart=>exact ⟨0,ZN _,rfl,rfl⟩
   case round =>
    obtain ⟨c,hc,rfl,rfl⟩:=hrel;have hR:=HR2.out;have hx:=Hx.out;have aaR:R < 36:=by omega
    by_cases hcr:c=R
    ·have ec:(((u:Int) + (c:Int)) % 36==0)=true:=by simp;omega
     have Hcr:=Z9 hcr;clear hR hx hcr;go_wp2_with fail
     go_ret;exact ⟨aH (by rw [← Hcr.out]),rfl⟩
    ·have ec:(((u:Int) + (c:Int)) % 36==0)=false:=by simp;omega
     clear hR hx;go_wp2_with fail
     go_roundw
     case rel=>exact ⟨c + 1,by omega,by go_num,trivial⟩
     case measure=>simp [intOf];omega
theorem ahu (a b:ByteArray):(a.toList==b.toList)=(a.data.toList==b.data.toList):=by
 rw [ByteArray.toList_eq,ByteArray.toList_eq]
theorem JY (cs:ByteArray)(p:UInt8→Bool)(hp:∀ c,cs.data.toList.contains c=p c)(hc:cs.size≤1000)(ha:cs.data.toList.all (fun b=>decide (b.toNat < 128))=true)(s:ByteArray)(w:World)(hs:s.size≤1000000000) :
  Calls Tryz.prog 101 #[.string s,.string cs] w fun e w'=>e=.returned (.bool (s.data.toList.all p))∧Below w.heap.size w w' :=
 (SX s cs w hs hc ha).mono fun e w' ⟨h1,h2⟩=>⟨by rw [h1];congr 3;exact funext hp,h2⟩
def ahv (s:ByteArray)(c:UInt8)(w:World)(e:Ending)(w':World):Prop:=∃ t:ByteArray,(t.toList==s.toList)=L.ends s.data.toList c∧e=.returned (.string t)∧Below w.heap.size w w'
theorem aaU (s:ByteArray)(c:UInt8)(hc:c.toNat < 128)(w:World)(hs:s.size≤1000000000)(h1:1≤s.size):Calls Tryz.prog 102 #[.string s,.string ⟨#[c]⟩] w (ahv s c w):=by
 refine (Tryz.strings_Trim_ascii s ⟨#[c]⟩ w (by omega) (by simp [ByteArray.size]) (fun j b hb=>?_)).mono ?_
 ·cases j with
  | zero=>simp at hb;rw [← hb];exact hc
  | succ j=>simp at hb
 ·rintro e w' ⟨rfl,hl⟩;refine ⟨_,?_,rfl,hl⟩;rw [ahu]
  exact L.ahg s.data.toList c (fun e=>by have:s.data.toList.length=0:=by rw [e];rfl
                                         have h2:s.data.toList.length=s.size:=rfl;omega)
theorem ahw (s:ByteArray)(w:World)(hs:s.size≤1000000)(hM:gG w) :
  Calls Tryz.prog 37 #[.agg #[.int .i64 1,.string s]] w fun e w'=>e=.returned (.int .i64 (L.iq 1 s))∧Below w.heap.size w w':=by
 have HM:=Z9 hM;have hcl:=aaN s.data.toList [64];have yu:Hid (∀ w,gG w→Calls Tryz.prog 99 #[.string s,.string ⟨#[64]⟩] w fun e w'=>e=.returned (.tuple #[.string ⟨(YR s.data.toList [64]).1.toArray⟩,.string ⟨(YR s.data.toList [64]).2.1.toArray⟩,.bool (YR s.data.toList [64]).2.2])∧Below w.heap.size w w'):=fun w h=>aaL s w (by omega) h ⟨#[64]⟩;have hid:L.iq 1 s=if L.AY s then 0 else 3:=by rw [L.iq,if_pos rfl]
 rw [hid];clear hid;unfold L.AY at *;generalize YR s.data.toList [64]=ct at *;obtain ⟨ll,dl,ok⟩:=ct;dsimp only at *
 have hlo:(ByteArray.mk ll.toArray).size≤1000000:=ZE hcl.1 hs;have hdo:(ByteArray.mk dl.toArray).size≤1000000:=ZE hcl.2 hs;clear hM hcl;generalize ByteArray.mk ll.toArray=lo at *;generalize ByteArray.mk dl.toArray=dom at *;obtain ⟨R,HR⟩:∃ R:Int,Hid ((if (ok && decide (s.size≤80) && L.uf lo && (L.labels dom).all L.kV && decide (2≤(L.labels dom).length))=true then 0 else 3)=R):=⟨_,Z9 rfl⟩;rw [HR.out];have Hb:Hid (Below w.heap.size w (w.alloc (.cells #[.int .i64 1,.string s] 46))):=(ZX _ _).alloc (Z5 _) _;have SY:=Z9 (HM.out.below Hb.out);go_enter Tryz.func37,Tryz.ntmps37
 go_wp2_with fail
 refine (yu.out _ SY.out).mono ?_;rintro e w1 ⟨rfl,bH⟩;have kH:=bH.size;have xw:=Z9 (SY.out.below bH);have Hb1:=Z9 (Hb.out.trans (bH.mono (by simp)));have hz1:=Hb1.out.size;clear bH kH HM SY Hb yu;go_wp2_with fail
 refine (aaO dom _ (by omega) xw.out).mono ?_;rintro e w2 ⟨blk,c,rfl,hblk,hcell,hl2⟩;have Cj:Hid (∀ x∈L.labels dom,x.size≤1000000):=fun x hx=>ZE (SS _ _ _ x hx) hdo;have hlen:(L.labels dom).length≤1000001:=ZE (Lib.splitB_length_le _ _ _ _) (by have:=Lib.countB_le ⟨#[46]⟩ (by decide) dom.size dom (Z5 _);omega);have Hc:=Z9 hcell;have Hb2:Hid (Below w.heap.size w w2):=Hb1.out.trans (hl2.mono hz1);have HM2:=Z9 (xw.out.below hl2);have hz2:=hl2.size;clear hcell hl2 Hb1 xw;generalize L.labels dom=ls at *;obtain ⟨B,HB⟩:∃ B,Hid ((ok && decide (s.size≤80) && L.uf lo && decide (2≤ls.length))=B):=⟨_,Z9 rfl⟩;have HR2:Hid ((if (B && ls.all L.kV)=true then (0:Int) else 3)=R):=by
  show _=_;rw [← HR.out,← HB.out];cases ok <;> cases L.uf lo <;> cases ls.all L.kV <;> simp
 clear HR;go_upto_region 8 with fail
 go_cut [4,7] (fun s4 _ wx=>s4=.bool B∧Below w2.heap.size w2 wx)
 case first =>
  by_cases hz:1≤lo.size∧lo.size≤64
  ·have e1:decide ((1:Int)≤lo.size∧(lo.size:Int)≤64)=true:=by simp;omega
   obtain ⟨C,HC⟩:∃ C,Hid (Lib.contains lo.data.toList [46,46]=C):=⟨_,Z9 rfl⟩;obtain ⟨M,Eb⟩:∃ M,Hid (lo.data.toList.all L.AU=M):=⟨_,Z9 rfl⟩;obtain ⟨E,HE⟩:∃ E,Hid (L.ends lo.data.toList 46=E):=⟨_,Z9 rfl⟩;have JX:Hid (∀ w,gG w→Calls Tryz.prog 103 #[.string lo,.string ⟨#[46,46]⟩] w fun e w'=>e=.returned (.bool C)∧w=w'):=fun w h=>HC.out ▸ aaM lo ⟨#[46,46]⟩ w (by omega) h;have oN:Hid (∀ w,Calls Tryz.prog 101 #[.string lo,.string ⟨#[97,98,99,100,101,102,103,104,105,106,107,108,109,110,111,112,113,114,115,116,117,118,119,120,121,122,48,49,50,51,52,53,54,55,56,57,46,45,95]⟩] w fun e w'=>e=.returned (.bool M)∧Below w.heap.size w w'):=fun w=>Eb.out ▸ JY _ _ L.aha (by decide) (by decide) lo w (by omega);have JZ:Hid (∀ w,Calls Tryz.prog 102 #[.string lo,.string ⟨#[46]⟩] w fun e w'=>∃ t:ByteArray,(t.toList==lo.toList)=E∧e=.returned (.string t)∧Below w.heap.size w w'):=fun w=>HE.out ▸ aaU lo 46 (by decide) w (by omega) hz.1;have HB2:Hid ((ok && decide (s.size≤80) && (E && !C && M) && decide (2≤ls.length))=B):=by
    show _=_;rw [← HB.out,L.uf,HC.out,Eb.out,HE.out];simp [hz]
   clear HC Eb HE HB;go_wp2_with (first | (go_at_call 62;refine (iY _ _ _ _).mono ?_;rintro e _ ⟨rfl,rfl⟩;rw [e1]) | (go_at_call 101;refine (oN.out _).mono ?_;rintro e w3 ⟨rfl,hl3⟩;have hz3:=hl3.size) | (go_at_call 102;refine (JZ.out _).mono ?_;rintro e w4 ⟨t4,J3,rfl,hl4⟩;have J4:=Z9 J3;clear J3;have hz4:=hl4.size) | (go_at_call 103;refine (JX.out _ ((HM2.out.below hl3).below hl4)).mono ?_;rintro e _ ⟨rfl,rfl⟩))
   all_goals
    go_meet;clear HR2 Cj Hc Hb2 JX oN JZ;first
     | (refine ⟨?_,ZX _ _⟩
        rw [← HB2.out];clear HB2;first
         | (simp_all;done)
         | (have h80:¬ s.size≤80:=by omega
            simp [h80];done))
     | (refine ⟨?_,hl3⟩;rw [← HB2.out];clear HB2;simp_all;done)
     | (refine ⟨?_,hl3.trans (hl4.mono hz3)⟩
        rw [← HB2.out,← J4.out];clear HB2 J4;have h80:s.size≤80:=by omega
        first
         | (have h1:¬ t4.toList=lo.toList:=by assumption
            simp [h1];done)
         | (have h1:C=true:=by assumption
            simp [h1];done)
         | (have h1:t4.toList=lo.toList:=by assumption
            have h2:ok=true:=by assumption
            have h3:M=true:=by assumption
            have h4:C=false:=by simpa using ‹¬ C=true›
            rw [h2,h3,h4,h1];simp [h80];omega))
  ·have e1:decide ((1:Int)≤lo.size∧(lo.size:Int)≤64)=false:=by simp;omega
   have E2:Hid (L.uf lo=false):=by
    show _=_;have:(decide (1≤lo.size) && decide (lo.size≤64))=false:=by simp;omega
    unfold L.uf;rw [this];rfl
   rw [E2.out] at HB;go_wp2_with (first | (go_at_call 62;refine (iY _ _ _ _).mono ?_;rintro e _ ⟨rfl,rfl⟩;rw [e1]))
   all_goals (go_meet;exact ⟨by rw [← HB.out];simp,ZX _ _⟩)
 case rest =>
  obtain ⟨rfl,hlc⟩:=hcut;have Hbc:Hid (Below w.heap.size w wc):=Hb2.out.trans (hlc.mono (ZE hz1 hz2));have H6:Hid (∀ i x,ls[i]? =some x→wc.cell? ⟨blk,i,none⟩=some (.string x)):=fun i x hx=>(hlc.cell (p:=⟨blk,i,none⟩) hblk).trans (Hc.out i x hx);have ahx:blk < wc.heap.size:=Nat.lt_of_lt_of_le hblk hlc.size;clear hlc Hc Hb2 HM2 HB;go_wp2_with fail
  go_loopw [4,60] (fun b4 i wr=>∃ (k:Nat) (B2:Bool),k≤ls.length∧i=.int .i64 k∧b4=.bool B2∧(if (B2 && (ls.drop k).all L.kV)=true then (0:Int) else 3)=R∧Below wc.heap.size wc wr) (fun _ i _=>ls.length - (intOf i).toNat)
  case atStart=>exact ⟨0,B,ZN _,rfl,rfl,HR2.out,ZX _ _⟩
  case round =>
   clear HR2;obtain ⟨k,B2,hk,rfl,rfl,hr,hbr⟩:=hrel;have Hr:=Z9 hr;have vg:=Z9 hbr;have Td:=hbr.size;clear hr hbr;by_cases hlt:k < ls.length
   ·obtain ⟨x,hx⟩:∃ x,ls[k]? =some x:=⟨_,Z8 hlt⟩;have hcx:=(vg.out.cell (p:=⟨blk,k,none⟩) ahx).trans (H6.out k x hx);have hxs:=Cj.out x (Z7 hx);have Hs:Hid ((if (B2 && (L.kV x && (ls.drop (k + 1)).all L.kV))=true then (0:Int) else 3)=R):=by
     show _=_;rw [← Hr.out,Zz hlt,List.all_cons];have:ls[k]=x:=by simpa [Z8 hlt] using hx
     rw [this]
    clear hx Hr;by_cases hz:1≤x.size∧x.size≤30
    ·have e1:decide ((1:Int)≤x.size∧(x.size:Int)≤30)=true:=by simp;omega
     obtain ⟨M,Eb⟩:∃ M,Hid (x.data.toList.all L.AV=M):=⟨_,Z9 rfl⟩;obtain ⟨E,HE⟩:∃ E,Hid (L.ends x.data.toList 45=E):=⟨_,Z9 rfl⟩;have oN:Hid (∀ w,Calls Tryz.prog 101 #[.string x,.string ⟨#[97,98,99,100,101,102,103,104,105,106,107,108,109,110,111,112,113,114,115,116,117,118,119,120,121,122,48,49,50,51,52,53,54,55,56,57,45]⟩] w fun e w'=>e=.returned (.bool M)∧Below w.heap.size w w'):=fun w=>Eb.out ▸ JY _ _ L.ahb (by decide) (by decide) x w (by omega);have JZ:Hid (∀ w,Calls Tryz.prog 102 #[.string x,.string ⟨#[45]⟩] w fun e w'=>∃ t:ByteArray,(t.toList==x.toList)=E∧e=.returned (.string t)∧Below w.heap.size w w'):=fun w=>HE.out ▸ aaU x 45 (by decide) w (by omega) hz.1;have HL:Hid (L.kV x=(E && M)):=by show _=_;rw [L.kV,Eb.out,HE.out];simp [hz]
     rw [HL.out] at Hs;clear Eb HE HL;go_wp2_with (first | (go_at_call 62;refine (iY _ _ _ _).mono ?_;rintro e _ ⟨rfl,rfl⟩;rw [e1]) | (go_at_call 101;refine (oN.out _).mono ?_;rintro e w3 ⟨rfl,hl3⟩;have hz3:=hl3.size) | (go_at_call 102;refine (JZ.out _).mono ?_;rintro e w4 ⟨t4,J3,rfl,hl4⟩;have J4:=Z9 J3;clear J3;have hz4:=hl4.size))
     all_goals
      go_roundw
      case rel =>
       clear Cj H6 oN JZ;first
        | (refine ⟨k + 1,false,by omega,by go_num,rfl,?_,vg.out⟩;rw [← Hs.out];clear Hs;simp_all;done)
        | (refine ⟨k + 1,false,by omega,by go_num,rfl,?_,vg.out.trans (hl3.mono Td)⟩;rw [← Hs.out];clear Hs;simp_all;done)
        | (refine ⟨k + 1,_,by omega,by go_num,rfl,?_,vg.out.trans ((hl3.mono Td).trans (hl4.mono (ZE Td hz3)))⟩
           rw [← Hs.out,← J4.out];clear Hs J4;simp_all;done)
      case measure=>simp [intOf];omega
    ·have e1:decide ((1:Int)≤x.size∧(x.size:Int)≤30)=false:=by simp;omega
     have E2:Hid (L.kV x=false):=by
      show _=_;have:(decide (1≤x.size) && decide (x.size≤30))=false:=by simp;omega
      unfold L.kV;rw [this];rfl
     rw [E2.out] at Hs;go_wp2_with (first | (go_at_call 62;refine (iY _ _ _ _).mono ?_;rintro e _ ⟨rfl,rfl⟩;rw [e1]))
     all_goals
      go_roundw
      case rel=>exact ⟨k + 1,false,by omega,by go_num,rfl,by rw [← Hs.out];simp,vg.out⟩
      case measure=>simp [intOf];omega
   ·have Hx:Hid ((if B2=true then (0:Int) else 3)=R):=by show _=_;rw [← Hr.out,ZJ (by omega)];simp
    clear Hr;cases B2;all_goals
     go_wp2_with fail
     go_ret;exact ⟨aH (by rw [← Hx.out];rfl),Hbc.out.trans (vg.out.mono (Hbc.out.size))⟩
theorem ahy (s p:ByteArray)(w:World):Calls Tryz.prog 104 #[.string s,.string p] w fun e w'=>e=.returned (.tuple #[.string ⟨(YO s.data.toList p.data.toList).toArray⟩,.bool (Y1 s.data.toList p.data.toList)])∧w=w':=(Tryz.strings_CutPrefix s p w).mono fun _ _ ⟨h1,h2⟩=>⟨h1,h2.symm⟩
theorem ahz (s:ByteArray)(w:World)(hs:s.size≤1000000) :
  Calls Tryz.prog 37 #[.agg #[.int .i64 2,.string s]] w fun e w'=>e=.returned (.int .i64 (L.iq 2 s))∧Below w.heap.size w w':=by
 obtain ⟨R,HR⟩:∃ R:Int,Hid ((if L.ug s then (0:Int) else 3)=R):=⟨_,Z9 rfl⟩;rw [show L.iq 2 s=R by rw [← HR.out,L.iq];simp];have Hb:Hid (Below w.heap.size w (w.alloc (.cells #[.int .i64 2,.string s] 46))):=(ZX _ _).alloc (Z5 _) _;have hz0:w.heap.size≤(w.alloc (.cells #[.int .i64 2,.string s] 46)).heap.size:=by simp
 have FX:Hid (∀ w,Calls Tryz.prog 104 #[.string s,.string ⟨#[43]⟩] w fun e w'=>e=.returned (.tuple #[.string ⟨(YO s.data.toList [43]).toArray⟩,.bool (Y1 s.data.toList [43])])∧w=w'):=fun w=>ahy s ⟨#[43]⟩ w;by_cases hP:Y1 s.data.toList [43]=true
 ·have hr:(ByteArray.mk (YO s.data.toList [43]).toArray).data.toList=s.data.toList.drop 1:=by simp [YO,hP]
  have hrs:(ByteArray.mk (YO s.data.toList [43]).toArray).size=s.size - 1:=by
   show (YO s.data.toList [43]).length=_;rw [YO,if_pos hP,ZK];rfl
  rw [hP] at FX;generalize ByteArray.mk (YO s.data.toList [43]).toArray=r at *;obtain ⟨M,HM⟩:∃ M,Hid ((s.data.toList.drop 1).all L.isDigit=M):=⟨_,Z9 rfl⟩;have oN:Hid (∀ w,Calls Tryz.prog 101 #[.string r,.string ⟨#[48,49,50,51,52,53,54,55,56,57]⟩] w fun e w'=>e=.returned (.bool M)∧Below w.heap.size w w'):=fun w=>HM.out ▸ hr ▸ JY _ _ L.ahA (by decide) (by decide) r w (by omega);by_cases hz:7≤r.size∧r.size≤15
  ·have e1:decide ((7:Int)≤r.size∧(r.size:Int)≤15)=true:=by simp;omega
   have Hh:=Z9 (Og r (by omega));rw [hr] at Hh;have hr0:0 < r.size:=by omega
   have HR2:Hid ((if (M && ((r[0].toNat:Int) != 48))=true then (0:Int) else 3)=R):=by
    show _=_;rw [← HR.out,L.ug,hP,HM.out,Hh.out,FW _ 48 48 rfl];have h8:(8≤s.size):=by omega
    have h16:s.size≤16:=by omega
    simp [h8,h16]
   have Hrs:=Z9 hrs;clear HR hP hr HM Hh hrs;go_enter Tryz.func37,Tryz.ntmps37
   go_wp2_with (first | (go_at_call 104;refine (FX.out _).mono ?_;rintro e _ ⟨rfl,rfl⟩) | (go_at_call 62;refine (iY _ _ _ _).mono ?_;rintro e _ ⟨rfl,rfl⟩;rw [e1]) | (go_at_call 101;refine (oN.out _).mono ?_;rintro e w3 ⟨rfl,hl3⟩))
   all_goals
    go_ret;refine ⟨aH ?_,Hb.out.trans (hl3.mono hz0)⟩;rw [← HR2.out];clear HR2 FX oN Hb;simp_all
  ·have e1:decide ((7:Int)≤r.size∧(r.size:Int)≤15)=false:=by simp;omega
   have HR2:Hid (3=R):=by
    show _=_;rw [← HR.out,L.ug];have h8:(decide (8≤s.size) && decide (s.size≤16))=false:=by simp;omega
    rw [Bool.and_assoc (Y1 _ _),h8];simp
   have Hrs:=Z9 hrs;clear HR hP hr HM hrs;go_enter Tryz.func37,Tryz.ntmps37
   go_wp2_with (first | (go_at_call 104;refine (FX.out _).mono ?_;rintro e _ ⟨rfl,rfl⟩) | (go_at_call 62;refine (iY _ _ _ _).mono ?_;rintro e _ ⟨rfl,rfl⟩;rw [e1]))
   go_ret;exact ⟨aH (by rw [← HR2.out]),Hb.out⟩
 ·have hP':Y1 s.data.toList [43]=false:=by simpa using hP
  rw [hP'] at FX;have HR2:Hid (3=R):=by show _=_;rw [← HR.out,L.ug,hP'];simp
  clear HR hP hP';go_enter Tryz.func37,Tryz.ntmps37
  go_wp2_with (first | (go_at_call 104;refine (FX.out _).mono ?_;rintro e _ ⟨rfl,rfl⟩))
  go_ret;exact ⟨aH (by rw [← HR2.out]),Hb.out⟩
theorem ahB (s:ByteArray)(w:World)(hs:s.size≤1000000) :
  Calls Tryz.prog 37 #[.agg #[.int .i64 4,.string s]] w fun e w'=>e=.returned (.int .i64 (L.iq 4 s))∧Below w.heap.size w w':=by
 obtain ⟨M,HM⟩:∃ M,Hid (s.data.toList.all L.AX=M):=⟨_,Z9 rfl⟩;obtain ⟨R,HR⟩:∃ R:Int,Hid ((if (decide (s.size=32) && M)=true then (0:Int) else 3)=R):=⟨_,Z9 rfl⟩;rw [show L.iq 4 s=R by rw [← HR.out,L.iq,L.AZ,HM.out];simp];have Hb:Hid (Below w.heap.size w (w.alloc (.cells #[.int .i64 4,.string s] 46))):=(ZX _ _).alloc (Z5 _) _;have hz0:w.heap.size≤(w.alloc (.cells #[.int .i64 4,.string s] 46)).heap.size:=by simp
 have oN:Hid (∀ w,Calls Tryz.prog 101 #[.string s,.string ⟨#[48,49,50,51,52,53,54,55,56,57,97,98,99,100,101,102]⟩] w fun e w'=>e=.returned (.bool M)∧Below w.heap.size w w'):=fun w=>HM.out ▸ JY _ _ L.ahe (by decide) (by decide) s w (by omega);clear HM;by_cases hz:s.size=32
 ·have e1:((s.size:Int)==32)=true:=by simp;omega
  have HR2:Hid ((if M=true then (0:Int) else 3)=R):=by show _=_;rw [← HR.out];simp [hz]
  clear HR hz;cases M;all_goals
   go_enter Tryz.func37,Tryz.ntmps37
   go_wp2_with (first | (go_at_call 101;refine (oN.out _).mono ?_;rintro e w3 ⟨rfl,hl3⟩))
   go_ret;exact ⟨aH (by rw [← HR2.out];rfl),Hb.out.trans (hl3.mono hz0)⟩
 ·have e1:((s.size:Int)==32)=false:=by simp;omega
  have HR2:Hid (3=R):=by show _=_;rw [← HR.out];simp [hz]
  clear HR hz;go_enter Tryz.func37,Tryz.ntmps37
  go_wp2_with fail
  go_ret;exact ⟨aH (by rw [← HR2.out]),Hb.out⟩
theorem ahC (s:ByteArray)(w:World)(hs:s.size≤1000000) :
  Calls Tryz.prog 37 #[.agg #[.int .i64 3,.string s]] w fun e w'=>e=.returned (.int .i64 (L.iq 3 s))∧Below w.heap.size w w':=by
 obtain ⟨R,HR⟩:∃ R:Int,Hid ((if L.sF s then (if L.yQ (L.qC s.data.toList.dropLast)=s.data.toList.getLastD 0 then (0:Int) else 15) else 3)=R):=⟨_,Z9 rfl⟩;rw [show L.iq 3 s=R by rw [← HR.out,L.iq];simp];have Hb:Hid (Below w.heap.size w (w.alloc (.cells #[.int .i64 3,.string s] 46))):=(ZX _ _).alloc (Z5 _) _;have hz0:w.heap.size≤(w.alloc (.cells #[.int .i64 3,.string s] 46)).heap.size:=by simp
 have oN:Hid (∀ w,Calls Tryz.prog 101 #[.string s,.string ⟨#[48,49,50,51,52,53,54,55,56,57,65,66,67,68,69,70,71,72,73,74,75,76,77,78,79,80,81,82,83,84,85,86,87,88,89,90]⟩] w fun e w'=>e=.returned (.bool (s.data.toList.all L.lD))∧Below w.heap.size w w'):=fun w=>JY _ _ L.ahc (by decide) (by decide) s w (by omega);by_cases hz:4≤s.size∧s.size≤20
 ·have e1:decide ((4:Int)≤s.size∧(s.size:Int)≤20)=true:=by simp;omega
  by_cases hmb:s.data.toList.all L.lD=true
  ·rw [hmb] at oN;have hmo:L.sF s=true:=by rw [L.sF,hmb];simp [hz]
   rw [hmo,if_pos rfl,Oe s (by omega)] at HR;have hdl:=aaT s (by omega);have hme:(s.extract 0 (s.size - 1)).data.toList.all L.lD=true:=by
    rw [hdl,List.all_eq_true];exact fun x hx=>List.all_eq_true.1 hmb x (List.dropLast_subset _ hx)
   have AQ:Hid (∀ w,Calls Tryz.prog 105 #[.string (s.extract 0 (s.size - 1))] w fun e w'=>e=.returned (.int .i64 (L.qC s.data.toList.dropLast:Int))∧w'=w):=fun w=>hdl ▸ aht _ w (by rw [ByteArray.size_extract];omega) hme;have hck:L.qC s.data.toList.dropLast < 36:=by unfold L.qC;omega
   have Oi:=Z9 (aaQ _ hck);generalize L.qC s.data.toList.dropLast=ck at *;have ama:(ck:Int) < 36:=by omega
   have hz1:s.size - 1 < s.size:=by omega
   have ez:(s.size:Int) - 1=((s.size - 1:Nat):Int):=by omega
   have hz2:s.size - 1≤s.size:=by omega
   have ew1:IntKind.i64.wrap ((s.size - 1:Nat):Int)=((s.size - 1:Nat):Int):=IntWalk.i64_in _ (by omega);have ew2:IntKind.i64.wrap ((s.size:Int) - 1)=((s.size - 1:Nat):Int):=(IntWalk.i64_in _ (by omega)).trans ez;clear hmb hdl hme hmo;by_cases hq:L.yQ ck=s[s.size - 1]
   ·rw [if_pos hq] at HR;have e3:(((⟨#[48,49,50,51,52,53,54,55,56,57,65,66,67,68,69,70,71,72,73,74,75,76,77,78,79,80,81,82,83,84,85,86,87,88,89,90]⟩:ByteArray)[ck].toNat:Int) != (s[s.size - 1].toNat:Int))=false:=by rw [Oi.out,hq];simp
    clear hq Oi;go_enter Tryz.func37,Tryz.ntmps37
    go_wp2_with (first | (go_at_call 62;refine (iY _ _ _ _).mono ?_;rintro e _ ⟨rfl,rfl⟩;rw [e1]) | (go_at_call 101;refine (oN.out _).mono ?_;rintro e w3 ⟨rfl,hl3⟩))
    refine wp_region_quiet_lit (by kernel_rfl) (by kernel_rfl) ?_;repeat (refine wpQuiet_step (fun K hK=>?_);go_simp;(try go_bits);(try simp (disch:=omega) only [if_pos]);(try simp (disch:=omega) only [if_neg]);(try go_simp);first | (refine hK _ ?_;clear hK K) | (apply Exists.intro;refine ⟨fun _=>?_,hK _ ?_⟩;(go_at_call 105;exact Calls.quiet_of_same (AQ.out _));clear hK K))
    refine wpQuiet_nil ?_;intro _ hw';obtain ⟨nq,hw''⟩:=hw';subst hw'';go_wp2_with fail
    go_ret;exact ⟨aH (by rw [← HR.out]),(Hb.out.trans (hl3.mono hz0)).trans (below_drewN _ _ _)⟩
   ·rw [if_neg hq] at HR;have e3:(((⟨#[48,49,50,51,52,53,54,55,56,57,65,66,67,68,69,70,71,72,73,74,75,76,77,78,79,80,81,82,83,84,85,86,87,88,89,90]⟩:ByteArray)[ck].toNat:Int) != (s[s.size - 1].toNat:Int))=true:=by
     rw [Oi.out,bne_iff_ne];intro h;exact hq (UInt8.toNat_inj.1 (by omega))
    clear hq Oi;go_enter Tryz.func37,Tryz.ntmps37
    go_wp2_with (first | (go_at_call 62;refine (iY _ _ _ _).mono ?_;rintro e _ ⟨rfl,rfl⟩;rw [e1]) | (go_at_call 101;refine (oN.out _).mono ?_;rintro e w3 ⟨rfl,hl3⟩))
    refine wp_region_quiet_lit (by kernel_rfl) (by kernel_rfl) ?_;repeat (refine wpQuiet_step (fun K hK=>?_);go_simp;(try go_bits);(try simp (disch:=omega) only [if_pos]);(try simp (disch:=omega) only [if_neg]);(try go_simp);first | (refine hK _ ?_;clear hK K) | (apply Exists.intro;refine ⟨fun _=>?_,hK _ ?_⟩;(go_at_call 105;exact Calls.quiet_of_same (AQ.out _));clear hK K))
    refine wpQuiet_nil ?_;intro _ hw';obtain ⟨nq,hw''⟩:=hw';subst hw'';go_wp2_with fail
    go_ret;exact ⟨aH (by rw [← HR.out]),(Hb.out.trans (hl3.mono hz0)).trans (below_drewN _ _ _)⟩
  ·have Tf:s.data.toList.all L.lD=false:=by simpa using hmb
   rw [Tf] at oN;have HR2:Hid (3=R):=by show _=_;rw [← HR.out,L.sF,Tf];simp
   clear hmb Tf HR;go_enter Tryz.func37,Tryz.ntmps37
   go_wp2_with (first | (go_at_call 62;refine (iY _ _ _ _).mono ?_;rintro e _ ⟨rfl,rfl⟩;rw [e1]) | (go_at_call 101;refine (oN.out _).mono ?_;rintro e w3 ⟨rfl,hl3⟩))
   go_quiet (fail)
   go_wp2_with fail
   go_ret;exact ⟨aH (by rw [← HR2.out]),(Hb.out.trans (hl3.mono hz0)).trans (below_drewN _ _ _)⟩
 ·have e1:decide ((4:Int)≤s.size∧(s.size:Int)≤20)=false:=by simp;omega
  have HR2:Hid (3=R):=by
   show _=_;have h8:(decide (4≤s.size) && decide (s.size≤20))=false:=by simp;omega
   rw [← HR.out,L.sF,h8];simp
  clear HR oN;go_enter Tryz.func37,Tryz.ntmps37
  go_wp2_with (first | (go_at_call 62;refine (iY _ _ _ _).mono ?_;rintro e _ ⟨rfl,rfl⟩;rw [e1]))
  go_quiet (fail)
  go_wp2_with fail
  go_ret;exact ⟨aH (by rw [← HR2.out]),Hb.out.trans (below_drewN _ _ _)⟩
theorem afZ (k:Int)(s:ByteArray)(w:World)(hs:s.size≤1000000)(hM:gG w) :
  Calls Tryz.prog 37 #[.agg #[.int .i64 k,.string s]] w fun e w'=>e=.returned (.int .i64 (L.iq k s))∧Below w.heap.size w w':=by
 by_cases h1:k=1
 ·subst h1;exact ahw s w hs hM
 ·by_cases h2:k=2
  ·subst h2;exact ahz s w hs
  ·by_cases h3:k=3
   ·subst h3;exact ahC s w hs
   ·by_cases h4:k=4
    ·subst h4;exact ahB s w hs
    ·have e1:(k==1)=false:=by simpa using h1
     have e2:(k==2)=false:=by simpa using h2
     have e3:(k==3)=false:=by simpa using h3
     have e4:(k==4)=false:=by simpa using h4
     obtain ⟨R,HR⟩:∃ R,Hid (L.iq k s=R):=⟨_,Z9 rfl⟩;rw [HR.out];have Hb:Hid (Below w.heap.size w (w.alloc (.cells #[.int .i64 k,.string s] 46))):=(ZX _ _).alloc (Z5 _) _;go_enter Tryz.func37,Tryz.ntmps37
     go_wp2_with fail
     go_ret;exact ⟨aH (by rw [← HR.out,L.iq,if_neg h1,if_neg h2,if_neg h3,if_neg h4]),Hb.out⟩
end
end Go.Proofs.YtmkkppknaikjjaaGreatDoor
