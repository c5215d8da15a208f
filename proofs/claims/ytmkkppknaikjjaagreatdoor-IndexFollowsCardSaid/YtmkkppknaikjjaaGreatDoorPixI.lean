/- Several texts in one: IdLaw, IdPreds, CheckId, IdFault. -/
import Derived.Test.YtmkkppknaikjjaaGreatDoorPixW
import Derived.Lib.IndexMore
import Derived.Lib.Split
import Derived.Lib.Small
import Derived.Test.YtmkkppknaikjjaaGreatDoorShix
import Derived.Lib.SplitLaws
import Derived.Test.YtmkkppknaikjjaaGreatDoorPixM
import Derived.Deep.DeepCutAuto
import Derived.IntWalk
/- Plain laws on ids: what is a mail address, a phone number, a member number, the id of a device. No program is in sight. -/
namespace Go.Proofs.YtmkkppknaikjjaaGreatDoor.L
open Go
def mailByte (c:UInt8):Bool:=isSmall c || isDigit c || c.toNat==46 || c.toNat==45 || c.toNat==95
def labelByte (c:UInt8):Bool:=isSmall c || isDigit c || c.toNat==45
def memberByte (c:UInt8):Bool:=isDigit c || isCapital c
def deviceByte (c:UInt8):Bool:=isDigit c || (decide (97≤c.toNat) && decide (c.toNat≤102))
def ends (l:List UInt8)(c:UInt8):Bool:=l.headD 0 != c && l.getLastD 0 != c
def labelOk (s:ByteArray):Bool:=decide (1≤s.size) && decide (s.size≤30) && ends s.data.toList 45 && s.data.toList.all labelByte
def labels (d:ByteArray):List ByteArray:=Lib.splitB ⟨#[46]⟩ 0 (Lib.countB d ⟨#[46]⟩) d
def localOk (l:ByteArray):Bool:=decide (1≤l.size) && decide (l.size≤64) && ends l.data.toList 46 && !Lib.contains l.data.toList [46,46] && l.data.toList.all mailByte
def mailOk (s:ByteArray):Bool :=
 (Lib.cut s.data.toList [64]).2.2 && decide (s.size≤80) && localOk ⟨(Lib.cut s.data.toList [64]).1.toArray⟩ && (labels ⟨(Lib.cut s.data.toList [64]).2.1.toArray⟩).all labelOk && decide (2≤(labels ⟨(Lib.cut s.data.toList [64]).2.1.toArray⟩).length)
def phoneOk (s:ByteArray):Bool:=Lib.hasPrefix s.data.toList [43] && decide (8≤s.size) && decide (s.size≤16) && (s.data.toList.drop 1).all isDigit && (s.data.toList.drop 1).headD 0 != 48
def memberOk (s:ByteArray):Bool:=decide (4≤s.size) && decide (s.size≤20) && s.data.toList.all memberByte
def deviceOk (s:ByteArray):Bool:=decide (s.size=32) && s.data.toList.all deviceByte
def signs:List UInt8:=digitsL++capitalsL
def sgn (c:UInt8):Nat:=(Lib.indexByte signs c).toNat
def q36 (n:Nat):Nat:=n / 36 + n % 36
def sgnSum:List UInt8→Nat
 | []=>0
 | c::t=>q36 (if t.length % 2=0 then 2 * sgn c else sgn c) + sgnSum t
def checkNo (l:List UInt8):Nat:=(36 - sgnSum l % 36) % 36
def signAt (n:Nat):UInt8:=signs.getD n 0
def idFault (k:Int)(s:ByteArray):Int :=
 if k=1 then (if mailOk s then 0 else 3) else if k=2 then (if phoneOk s then 0 else 3)
 else if k=3 then (if memberOk s then (if signAt (checkNo s.data.toList.dropLast)=s.data.toList.getLastD 0 then 0 else 15) else 3)
 else if k=4 then (if deviceOk s then 0 else 3) else 4
set_option maxRecDepth 100000 in
theorem sgn_lt (c:UInt8)(h:memberByte c=true):0≤Lib.indexByte signs c∧Lib.indexByte signs c < 36 :=
 byte_all (p:=fun c=>memberByte c=true→0≤Lib.indexByte signs c∧Lib.indexByte signs c < 36) (by decide +kernel) c h
set_option maxRecDepth 100000 in
theorem mails_has (c:UInt8):(smallsL++digitsL++[46,45,95]).contains c=mailByte c:=byte_all (p:=fun c=>(smallsL++digitsL++[46,45,95]).contains c=mailByte c) (by decide +kernel) c
set_option maxRecDepth 100000 in
theorem labels_has (c:UInt8):(smallsL++digitsL++[45]).contains c=labelByte c:=byte_all (p:=fun c=>(smallsL++digitsL++[45]).contains c=labelByte c) (by decide +kernel) c
set_option maxRecDepth 100000 in
theorem members_has (c:UInt8):(digitsL++capitalsL).contains c=memberByte c:=byte_all (p:=fun c=>(digitsL++capitalsL).contains c=memberByte c) (by decide +kernel) c
set_option maxRecDepth 100000 in
theorem devices_has (c:UInt8):(digitsL++[97,98,99,100,101,102]).contains c=deviceByte c:=byte_all (p:=fun c=>(digitsL++[97,98,99,100,101,102]).contains c=deviceByte c) (by decide +kernel) c
theorem q36_le (n:Nat)(h:n≤70):q36 n≤36:=by unfold q36;omega
theorem sgn_le (c:UInt8)(h:memberByte c=true):sgn c≤35:=by have:=sgn_lt c h;unfold sgn;omega
theorem sgnSum_le:∀ l:List UInt8,l.all memberByte=true→sgnSum l≤36 * l.length
 | [],_=>by simp [sgnSum]
 | c::t,h=>by
  simp only [List.all_cons,Bool.and_eq_true] at h;have h1:=sgn_le c h.1;have h2:=sgnSum_le t h.2;have h3:=q36_le (if t.length % 2=0 then 2 * sgn c else sgn c) (by split <;> omega);rw [sgnSum,List.length_cons];omega
theorem trimS_same (l:List UInt8)(c:UInt8)(h:l≠[]):(Lib.trimS l [c]==l)=ends l c:=by
 have hd:∀ (m:List UInt8),m.headD 0≠c→m.dropWhile ([c].contains ·)=m:=fun m hm=>by
  cases m with
  | nil=>rfl
  | cons a t=>rw [List.dropWhile_cons_of_neg];simpa using hm
 have hl:∀ m:List UInt8,m.reverse.headD 0=m.getLastD 0:=fun m=>by
  rw [List.headD_eq_head?_getD,List.getLastD_eq_getLast?,List.head?_reverse]
 rw [Bool.eq_iff_iff,beq_iff_eq];unfold ends Lib.trimS Lib.trimLeftS Lib.trimRightS;simp only [Bool.and_eq_true,bne_iff_ne,ne_eq];constructor
 ·intro e;have hlen:=congrArg List.length e;have k1:=(List.dropWhile_sublist ([c].contains ·) (l:=(l.reverse.dropWhile ([c].contains ·)).reverse)).length_le;have k2:=(List.dropWhile_sublist ([c].contains ·) (l:=l.reverse)).length_le;simp only [List.length_reverse] at k1 k2;have e2:l.reverse.dropWhile ([c].contains ·)=l.reverse:=(List.dropWhile_sublist _).eq_of_length (by rw [List.length_reverse];omega);rw [e2,List.reverse_reverse] at e;constructor
  ·intro h0;cases l with
   | nil=>exact h rfl
   | cons a t =>
    have ha:a=c:=h0;rw [List.dropWhile_cons_of_pos (by simp [ha])] at e;have:=congrArg List.length e
    have k3:=(List.dropWhile_sublist ([c].contains ·) (l:=t)).length_le;simp only [List.length_cons] at this;omega
  ·intro h0;rw [← hl] at h0;cases hr:l.reverse with
   | nil=>simp at hr;exact h hr
   | cons a t =>
    rw [hr] at e2 h0;have ha:a=c:=h0;rw [List.dropWhile_cons_of_pos (by simp [ha])] at e2;have:=congrArg List.length e2
    have k3:=(List.dropWhile_sublist ([c].contains ·) (l:=t)).length_le;simp only [List.length_cons] at this;omega
 ·rintro ⟨h1,h2⟩;rw [hd l.reverse (by rw [hl];exact h2),List.reverse_reverse,hd l h1]
end Go.Proofs.YtmkkppknaikjjaaGreatDoor.L
namespace Go.Proofs.YtmkkppknaikjjaaGreatDoor
section
open Go.RowKit
theorem u8_ne (x c:UInt8)(n:Int)(h:(c.toNat:Int)=n):(x != c)=((x.toNat:Int) != n):=by
 subst h;rw [Bool.eq_iff_iff,bne_iff_ne,bne_iff_ne,ne_eq,ne_eq,← UInt8.toNat_inj];omega
theorem isLabel1_pb:PB 336 L.labelByte:=by
 intro c w;obtain ⟨R,HR⟩:∃ R,Hid (L.labelByte c=R):=⟨_,Lib.hid rfl⟩;rw [HR.out];go_enter Tryz.func336,Tryz.ntmps336
 go_wp2_with (first | (go_at_call 190;refine (small_pb c _).mono ?_;rintro e _ ⟨rfl,rfl⟩) | (go_at_call 193;refine (digit_pb c _).mono ?_;rintro e _ ⟨rfl,rfl⟩))
 all_goals (go_ret;refine ⟨ret_b ?_,rfl⟩;rw [← HR.out];unfold L.labelByte;rw [Bool.eq_iff_iff];simp_all;try omega)
theorem isMail1_pb:PB 316 L.mailByte:=by
 intro c w;obtain ⟨R,HR⟩:∃ R,Hid (L.mailByte c=R):=⟨_,Lib.hid rfl⟩;rw [HR.out];go_enter Tryz.func316,Tryz.ntmps316
 go_wp2_with (first | (go_at_call 190;refine (small_pb c _).mono ?_;rintro e _ ⟨rfl,rfl⟩) | (go_at_call 193;refine (digit_pb c _).mono ?_;rintro e _ ⟨rfl,rfl⟩))
 all_goals (go_ret;refine ⟨ret_b ?_,rfl⟩;rw [← HR.out];unfold L.mailByte;rw [Bool.eq_iff_iff];simp_all;try omega)
theorem isMember1_pb:PB 318 L.memberByte:=by
 intro c w;obtain ⟨R,HR⟩:∃ R,Hid (L.memberByte c=R):=⟨_,Lib.hid rfl⟩;rw [HR.out];go_enter Tryz.func318,Tryz.ntmps318
 go_wp2_with (first | (go_at_call 319;refine (capital_pb c _).mono ?_;rintro e _ ⟨rfl,rfl⟩) | (go_at_call 193;refine (digit_pb c _).mono ?_;rintro e _ ⟨rfl,rfl⟩))
 all_goals (go_ret;refine ⟨ret_b ?_,rfl⟩;rw [← HR.out];unfold L.memberByte;rw [Bool.eq_iff_iff];simp_all;try omega)
theorem isDevice1_pb:PB 320 L.deviceByte:=by
 intro c w;obtain ⟨R,HR⟩:∃ R,Hid (L.deviceByte c=R):=⟨_,Lib.hid rfl⟩;rw [HR.out];go_enter Tryz.func320,Tryz.ntmps320
 go_wp2_with (first | (go_at_call 193;refine (digit_pb c _).mono ?_;rintro e _ ⟨rfl,rfl⟩))
 all_goals (go_ret;refine ⟨ret_b ?_,rfl⟩;rw [← HR.out];unfold L.deviceByte;rw [Bool.eq_iff_iff];simp_all;try omega)
theorem lastD_at (s:ByteArray)(h:0 < s.size):s.data.toList.getLastD 0=s[s.size - 1]:=by
 obtain ⟨⟨l⟩⟩:=s;cases l with
 | nil=>simp [ByteArray.size] at h
 | cons a t =>
  show List.getLastD (a::t) 0=(a::t)[(a::t).length - 1];rw [List.getLastD_eq_getLast?,List.getLast?_eq_getElem?,List.getElem?_eq_getElem (by simp)];rfl
theorem isMember_any (s:ByteArray)(w:World)(hs:s.size≤1000000000) :
  Calls Tryz.prog 289 #[.string s] w fun e w'=>e=.returned (.bool (L.memberOk s))∧w=w':=by
 obtain ⟨R,HR⟩:∃ R,Hid (L.memberOk s=R):=⟨_,Lib.hid rfl⟩;rw [HR.out];obtain ⟨M,HM⟩:∃ M,Hid (s.data.toList.all L.memberByte=M):=⟨_,Lib.hid rfl⟩;have Ha:Hid (∀ w,Calls Tryz.prog 191 #[.string s,.func (.func 318) #[] #[]] w fun e w'=>e=.returned (.bool M)∧w=w'):=fun w=>HM.out ▸ all_any _ _ isMember1_pb s w hs (fun _ _=>by kernel_rfl);go_enter Tryz.func289,Tryz.ntmps289
 go_wp2_with (first | (go_at_call 53;refine (within_any _ _ _ _).mono ?_;rintro e _ ⟨rfl,rfl⟩) | (go_at_call 191;refine (Ha.out _).mono ?_;rintro e _ ⟨rfl,rfl⟩))
 all_goals (go_ret;refine ⟨ret_b ?_,rfl⟩;rw [← HR.out];unfold L.memberOk;rw [HM.out];clear HR Ha HM;simp_all;try omega)
theorem isDevice_any (s:ByteArray)(w:World)(hs:s.size≤1000000000) :
  Calls Tryz.prog 290 #[.string s] w fun e w'=>e=.returned (.bool (L.deviceOk s))∧w=w':=by
 obtain ⟨R,HR⟩:∃ R,Hid (L.deviceOk s=R):=⟨_,Lib.hid rfl⟩;rw [HR.out];obtain ⟨M,HM⟩:∃ M,Hid (s.data.toList.all L.deviceByte=M):=⟨_,Lib.hid rfl⟩;have Ha:Hid (∀ w,Calls Tryz.prog 191 #[.string s,.func (.func 320) #[] #[]] w fun e w'=>e=.returned (.bool M)∧w=w'):=fun w=>HM.out ▸ all_any _ _ isDevice1_pb s w hs (fun _ _=>by kernel_rfl);go_enter Tryz.func290,Tryz.ntmps290
 go_wp2_with (first | (go_at_call 191;refine (Ha.out _).mono ?_;rintro e _ ⟨rfl,rfl⟩))
 all_goals (go_ret;refine ⟨ret_b ?_,rfl⟩;rw [← HR.out];unfold L.deviceOk;rw [HM.out];clear HR Ha HM;simp_all;try omega)
theorem isLabel_any (s:ByteArray)(w:World)(hs:s.size≤1000000000) :
  Calls Tryz.prog 317 #[.string s] w fun e w'=>e=.returned (.bool (L.labelOk s))∧w=w':=by
 obtain ⟨R,HR⟩:∃ R,Hid (L.labelOk s=R):=⟨_,Lib.hid rfl⟩;rw [HR.out];obtain ⟨M,HM⟩:∃ M,Hid (s.data.toList.all L.labelByte=M):=⟨_,Lib.hid rfl⟩;have Ha:Hid (∀ w,Calls Tryz.prog 191 #[.string s,.func (.func 336) #[] #[]] w fun e w'=>e=.returned (.bool M)∧w=w'):=fun w=>HM.out ▸ all_any _ _ isLabel1_pb s w hs (fun _ _=>by kernel_rfl);by_cases hz:1≤s.size∧s.size≤30
 ·have e1:decide ((1:Int)≤s.size∧(s.size:Int)≤30)=true:=by simp;omega
  have Hh:=Lib.hid (headD_at s (by omega));have Hl:=Lib.hid (lastD_at s (by omega));have hz1:s.size - 1 < s.size:=by omega
  have hz0:0 < s.size:=by omega
  have ez:(s.size:Int) - 1=((s.size - 1:Nat):Int):=by omega
  go_enter Tryz.func317,Tryz.ntmps317
  go_wp2_with (first | (go_at_call 53;refine (within_any _ _ _ _).mono ?_;rintro e _ ⟨rfl,rfl⟩;rw [e1]) | (go_at_call 191;refine (Ha.out _).mono ?_;rintro e _ ⟨rfl,rfl⟩))
  all_goals (go_ret;refine ⟨ret_b ?_,rfl⟩;rw [← HR.out];unfold L.labelOk L.ends;rw [HM.out,Hh.out,Hl.out,u8_ne _ 45 45 rfl,u8_ne _ 45 45 rfl];clear HR Ha HM Hh Hl;simp_all)
 ·have e1:decide ((1:Int)≤s.size∧(s.size:Int)≤30)=false:=by simp;omega
  have E2:Hid ((decide (1≤s.size) && decide (s.size≤30))=false):=by show _=_;simp;omega
  go_enter Tryz.func317,Tryz.ntmps317
  go_wp2_with (first | (go_at_call 53;refine (within_any _ _ _ _).mono ?_;rintro e _ ⟨rfl,rfl⟩;rw [e1]))
  go_ret;exact ⟨ret_b (by rw [← HR.out,L.labelOk,E2.out];rfl),rfl⟩
theorem hasPrefix_any (s p:ByteArray)(w:World):Calls Tryz.prog 216 #[.string s,.string p] w fun e w'=>e=.returned (.bool (Lib.hasPrefix s.data.toList p.data.toList))∧w=w':=(Tryz.strings_HasPrefix s p w).mono fun _ _ ⟨h1,h2⟩=>⟨h1,h2.symm⟩
theorem ext1 (s:ByteArray):(s.extract 1 s.size).data.toList=s.data.toList.drop 1:=by
 rw [Lib.extract_data,List.take_of_length_le (by rw [List.length_drop,← Lib.size_eq];omega)]
theorem drop1_at (s:ByteArray)(h:1 < s.size):(s.data.toList.drop 1).headD 0=s[1]:=by
 obtain ⟨⟨l⟩⟩:=s;match l,h with
 | a::b::t,_=>rfl
 | [a],h=>simp [ByteArray.size] at h
 | [],h=>simp [ByteArray.size] at h
theorem isPhone_any (s:ByteArray)(w:World)(hs:s.size≤1000000000) :
  Calls Tryz.prog 288 #[.string s] w fun e w'=>e=.returned (.bool (L.phoneOk s))∧w=w':=by
 obtain ⟨R,HR⟩:∃ R,Hid (L.phoneOk s=R):=⟨_,Lib.hid rfl⟩;rw [HR.out];obtain ⟨M,HM⟩:∃ M,Hid ((s.data.toList.drop 1).all L.isDigit=M):=⟨_,Lib.hid rfl⟩;obtain ⟨P,HP⟩:∃ P,Hid (Lib.hasPrefix s.data.toList [43]=P):=⟨_,Lib.hid rfl⟩;have Hp:Hid (∀ w,Calls Tryz.prog 216 #[.string s,.string ⟨#[43]⟩] w fun e w'=>e=.returned (.bool P)∧w=w'):=fun w=>HP.out ▸ hasPrefix_any s ⟨#[43]⟩ w;have Ha:Hid (∀ w,Calls Tryz.prog 191 #[.string (s.extract 1 s.size),.func (.func 193) #[] #[]] w fun e w'=>e=.returned (.bool M)∧w=w'):=fun w=>HM.out ▸ ext1 s ▸ all_any _ _ digit_pb (s.extract 1 s.size) w (by rw [ByteArray.size_extract];omega) (fun _ _=>by kernel_rfl);by_cases hz:8≤s.size∧s.size≤16
 ·have e1:decide ((8:Int)≤s.size∧(s.size:Int)≤16)=true:=by simp;omega
  have E2:Hid ((decide (8≤s.size) && decide (s.size≤16))=true):=by show _=_;simp;omega
  have Hh:=Lib.hid (drop1_at s (by omega));have hz1:1 < s.size:=by omega
  have hz0:1≤s.size:=by omega
  go_enter Tryz.func288,Tryz.ntmps288
  go_wp2_with (first | (go_at_call 216;refine (Hp.out _).mono ?_;rintro e _ ⟨rfl,rfl⟩) | (go_at_call 53;refine (within_any _ _ _ _).mono ?_;rintro e _ ⟨rfl,rfl⟩;rw [e1]) | (go_at_call 191;refine (Ha.out _).mono ?_;rintro e _ ⟨rfl,rfl⟩))
  all_goals (go_ret;refine ⟨ret_b ?_,rfl⟩;rw [← HR.out];unfold L.phoneOk;rw [Bool.and_assoc (Lib.hasPrefix _ _),E2.out,HM.out,HP.out,Hh.out,u8_ne _ 48 48 rfl];clear HR Ha HM Hh Hp HP;simp_all)
 ·have e1:decide ((8:Int)≤s.size∧(s.size:Int)≤16)=false:=by simp;omega
  have E2:Hid ((decide (8≤s.size) && decide (s.size≤16))=false):=by show _=_;simp;omega
  go_enter Tryz.func288,Tryz.ntmps288
  go_wp2_with (first | (go_at_call 216;refine (Hp.out _).mono ?_;rintro e _ ⟨rfl,rfl⟩) | (go_at_call 53;refine (within_any _ _ _ _).mono ?_;rintro e _ ⟨rfl,rfl⟩;rw [e1]))
  all_goals (go_ret;exact ⟨ret_b (by rw [← HR.out,L.phoneOk,Bool.and_assoc (Lib.hasPrefix _ _),E2.out];simp),rfl⟩)
def MaxL (w:World):Prop:=∃ m:Int,w.cell? ⟨2,0,none⟩=some (.int .i64 m)
theorem MaxL.below {w w':World}(h:MaxL w)(k:Below w.heap.size w w'):MaxL w':=by
 obtain ⟨m,hm⟩:=h;exact ⟨m,by rw [k.cell (p:=⟨2,0,none⟩) (World.block_lt_of_cell? w _ hm)];exact hm⟩
theorem cut_any (s:ByteArray)(w:World)(hs:s.size≤1000000000)(hM:MaxL w)(sep:ByteArray) :
  Calls Tryz.prog 99 #[.string s,.string sep] w fun e w'=>e=.returned (.tuple #[.string ⟨(Lib.cut s.data.toList sep.data.toList).1.toArray⟩,.string ⟨(Lib.cut s.data.toList sep.data.toList).2.1.toArray⟩,.bool (Lib.cut s.data.toList sep.data.toList).2.2])∧Below w.heap.size w w':=by
 obtain ⟨m,hm⟩:=hM;exact (Tryz.strings_Cut s sep m w (by omega) hm).mono fun e w' ⟨h1,n,h2⟩=>⟨h1,by subst h2;exact ⟨rfl,rfl,rfl,Nat.le_refl _,fun _ _=>rfl⟩⟩
theorem contains_any (s sub:ByteArray)(w:World)(hs:s.size≤1000000000)(hM:MaxL w) :
  Calls Tryz.prog 103 #[.string s,.string sub] w fun e w'=>e=.returned (.bool (Lib.contains s.data.toList sub.data.toList))∧w=w':=by
 obtain ⟨m,hm⟩:=hM;exact (Tryz.strings_Contains s sub m w (by omega) hm).mono fun e w' ⟨h1,h2⟩=>⟨h1,h2.symm⟩
theorem cut_le (l sep:List UInt8):(Lib.cut l sep).1.length≤l.length∧(Lib.cut l sep).2.1.length≤l.length:=by
 unfold Lib.cut;split
 ·simp only [List.length_take,List.length_drop];omega
 ·simp
theorem split_le (sep:ByteArray):∀ (k:Nat) (s:ByteArray) (x:ByteArray),x∈Lib.splitB sep 0 k s→x.size≤s.size
 | 0,s,x,h=>by
  rw [Lib.splitB_zero,List.mem_singleton] at h;rw [h];exact Nat.le_refl _
 | k + 1,s,x,h=>by
  unfold Lib.splitB at h;split at h
  ·rw [List.mem_singleton] at h;rw [h];exact Nat.le_refl _
  ·rcases List.mem_cons.1 h with rfl | h
   ·rw [ByteArray.size_extract];omega
   ·have:=split_le sep k _ x h
    rw [ByteArray.size_extract] at this;omega
def GivesLabels (d:ByteArray)(w:World)(e:Ending)(w':World):Prop:=∃ blk c,e=.returned (.slice (some ⟨blk,0,none⟩) (L.labels d).length c)∧blk < w'.heap.size∧(∀ i x,(L.labels d)[i]? =some x→w'.cell? ⟨blk,i,none⟩=some (.string x))∧Below w.heap.size w w'
theorem split_any (d:ByteArray)(w:World)(hd:d.size≤1000000000)(hM:MaxL w) :
  Calls Tryz.prog 100 #[.string d,.string ⟨#[46]⟩] w (GivesLabels d w):=by
 obtain ⟨m,hm⟩:=hM;refine (Tryz.strings_Split d ⟨#[46]⟩ m w (by omega) hm (by decide)).mono ?_;rintro e w' ⟨rfl,rfl⟩;have hl:(L.labels d).length=Lib.countB d ⟨#[46]⟩ + 1:=Lib.splitB_all ⟨#[46]⟩ (by decide) 0 _ d rfl;refine ⟨w.heap.size,_,by rw [hl],by simp,fun i x hx=>?_,(Below.refl _ _).alloc (Nat.le_refl _) _⟩;rw [World.cell?_alloc_at _ _ _ _ rfl];have hx':(Lib.splitB ⟨#[46]⟩ 0 (Lib.countB d ⟨#[46]⟩) d)[i]? =some x:=hx;simp [hx']
end
section
open Go.RowKit
theorem indexByte_any (s:ByteArray)(c:UInt8)(w:World):Calls Tryz.prog 189 #[.string s,.int .u8 (c.toNat:Int)] w fun e w'=>e=.returned (.int .i64 (Lib.indexByte s.data.toList c))∧w=w' :=
 (Tryz.strings_IndexByte s c.toNat w).mono fun e w' ⟨h1,h2⟩=>⟨by rw [h1];simp,h2.symm⟩
set_option maxRecDepth 100000 in
theorem signs_at (n:Nat)(h:n < (⟨#[48,49,50,51,52,53,54,55,56,57,65,66,67,68,69,70,71,72,73,74,75,76,77,78,79,80,81,82,83,84,85,86,87,88,89,90]⟩:ByteArray).size):(⟨#[48,49,50,51,52,53,54,55,56,57,65,66,67,68,69,70,71,72,73,74,75,76,77,78,79,80,81,82,83,84,85,86,87,88,89,90]⟩:ByteArray)[n]=L.signAt n:=by
 have:∀ i:Fin 36,(⟨#[48,49,50,51,52,53,54,55,56,57,65,66,67,68,69,70,71,72,73,74,75,76,77,78,79,80,81,82,83,84,85,86,87,88,89,90]⟩:ByteArray)[i.val]'i.isLt=L.signAt i.val:=by decide +kernel
 exact this ⟨n,h⟩
set_option maxHeartbeats 1000000 in
set_option maxRecDepth 100000 in
theorem checkSign_any (s:ByteArray)(w:World)(hs:s.size≤1000)(hmb:s.data.toList.all L.memberByte=true) :
  Calls Tryz.prog 291 #[.string s] w fun e w'=>e=.returned (.int .u8 ((L.signAt (L.checkNo s.data.toList)).toNat:Int))∧w=w':=by
 have Hmb:=Lib.hid hmb;have hsum:=L.sgnSum_le s.data.toList hmb;rw [show s.data.toList.length=s.size from rfl] at hsum;clear hmb;obtain ⟨R,HR⟩:∃ R,Hid (L.checkNo s.data.toList=R):=⟨_,Lib.hid rfl⟩;rw [HR.out];obtain ⟨T,HT⟩:∃ T,Hid (L.sgnSum s.data.toList=T):=⟨_,Lib.hid rfl⟩;rw [HT.out] at hsum;have HR2:Hid (R=(36 - T % 36) % 36):=by show _=_;rw [← HR.out,L.checkNo,HT.out]
 clear HR;go_enter Tryz.func291,Tryz.ntmps291
 go_wp2_with fail
 go_loopw [3,4,5] (fun a b i wr=>∃ (k u t:Nat),k≤s.size∧i=.int .i64 ((k:Int) - 1)∧a=.int .i64 u∧L.sgnSum (s.data.toList.drop k)=u∧u≤36 * (s.size - k)∧b=.int .i64 (t:Int)∧t=(if (s.size - k) % 2=0 then 2 else 1)∧wr=w) (fun _ _ i _=>(intOf i + 1).toNat)
 case atStart=>exact ⟨s.size,0,2,Nat.le_refl _,rfl,rfl,by rw [show s.data.toList.drop s.size=[] from List.drop_eq_nil_of_le (Nat.le_refl s.size)];rfl,by omega,rfl,by simp,rfl⟩
 case round =>
  obtain ⟨k,u,t,hk,rfl,rfl,hu,hu2,rfl,ht,rfl⟩:=hrel;have Hu:=Lib.hid hu;have Ht:=Lib.hid ht;clear hu ht;by_cases h0:k=0
  ·subst h0;have Hx:Hid (u=T):=by show _=_;rw [← Hu.out,List.drop_zero,HT.out]
   have hr36:R < 36:=by rw [HR2.out];omega
   have e1:(36:Int) - (u:Int) % 36=((36 - u % 36:Nat):Int):=by omega
   have e2:((36 - u % 36:Nat):Int) % 36=(R:Int):=by rw [HR2.out,← Hx.out];omega
   have Hs:=Lib.hid (signs_at R hr36);clear Hx;go_wp2_with fail
   go_ret;exact ⟨by rw [← Hs.out];rfl,rfl⟩
  ·obtain ⟨j,rfl⟩:∃ j,k=j + 1:=⟨k - 1,by omega⟩;have ej:((j + 1:Nat):Int) - 1=(j:Int):=by omega
   rw [ej];have hjs:j < s.size:=by omega
   have hjl:j < s.data.toList.length:=hjs;have hmj:L.memberByte s[j]=true:=List.all_eq_true.1 Hmb.out _ (List.getElem_mem (l:=s.data.toList) hjl);have hlt:=L.sgn_lt s[j] hmj;have Hstep:Hid (L.sgnSum (s.data.toList.drop j)=L.q36 (if (s.size - (j + 1)) % 2=0 then 2 * L.sgn s[j] else L.sgn s[j]) + u):=by
    show _=_;rw [List.drop_eq_getElem_cons hjl,L.sgnSum,Hu.out,List.length_drop];rfl
   obtain ⟨v,hv⟩:∃ v:Nat,Lib.indexByte L.signs s[j]=(v:Int):=Int.eq_ofNat_of_zero_le hlt.1;have hv36:v < 36:=by omega
   have Hv2:Hid (L.sgn s[j]=v):=by show _=_;rw [L.sgn,hv];rfl
   have Hix:Hid (∀ w,Calls Tryz.prog 189 #[.string ⟨#[48,49,50,51,52,53,54,55,56,57,65,66,67,68,69,70,71,72,73,74,75,76,77,78,79,80,81,82,83,84,85,86,87,88,89,90]⟩,.int .u8 (s[j].toNat:Int)] w fun e w'=>e=.returned (.int .i64 (v:Int))∧w=w'):=fun w=>hv ▸ indexByte_any ⟨#[48,49,50,51,52,53,54,55,56,57,65,66,67,68,69,70,71,72,73,74,75,76,77,78,79,80,81,82,83,84,85,86,87,88,89,90]⟩ s[j] w;have hq:=L.q36_le (2 * v) (by omega);clear hv hlt hmj h0 Hu ej;rw [Hv2.out] at Hstep;by_cases hp:(s.size - (j + 1)) % 2=0
   ·rw [if_pos hp] at Hstep;have Hp:=Lib.hid hp;obtain rfl:2=t:=by rw [Ht.out,if_pos hp]
    clear hp Ht hq;go_wp2_with fail
    refine (Hix.out _).mono ?_;rintro e _ ⟨rfl,rfl⟩;clear Hix;go_wp2_with fail
    go_roundw
    case rel=>exact ⟨j,u + L.q36 (2 * v),1,by omega,by go_num,by unfold L.q36;go_num,by rw [Hstep.out,Nat.add_comm],by have:=L.q36_le (2 * v) (by omega);omega,rfl,by rw [if_neg (by have:=Hp.out;omega)],trivial⟩
    case measure=>simp [intOf]
   ·rw [if_neg hp] at Hstep;have Hp:=Lib.hid hp;obtain rfl:1=t:=by rw [Ht.out,if_neg hp]
    clear hp Ht hq;go_wp2_with fail
    refine (Hix.out _).mono ?_;rintro e _ ⟨rfl,rfl⟩;clear Hix;go_wp2_with fail
    go_roundw
    case rel=>exact ⟨j,u + L.q36 v,2,by omega,by go_num,by unfold L.q36;go_num,by rw [Hstep.out,Nat.add_comm],by have:=L.q36_le v (by omega);omega,rfl,by rw [if_pos (by have:=Hp.out;omega)],trivial⟩
    case measure=>simp [intOf]
set_option maxHeartbeats 2000000 in
set_option maxRecDepth 100000 in
theorem isMail_any (s:ByteArray)(w:World)(hs:s.size≤1000000)(hM:MaxL w) :
  Calls Tryz.prog 287 #[.string s] w fun e w'=>e=.returned (.bool (L.mailOk s))∧Below w.heap.size w w':=by
 have HM:=Lib.hid hM;have hcl:=cut_le s.data.toList [64];have Hcut:Hid (∀ w,MaxL w→Calls Tryz.prog 99 #[.string s,.string ⟨#[64]⟩] w fun e w'=>e=.returned (.tuple #[.string ⟨(Lib.cut s.data.toList [64]).1.toArray⟩,.string ⟨(Lib.cut s.data.toList [64]).2.1.toArray⟩,.bool (Lib.cut s.data.toList [64]).2.2])∧Below w.heap.size w w'):=fun w h=>cut_any s w (by omega) h ⟨#[64]⟩;unfold L.mailOk at *;generalize Lib.cut s.data.toList [64]=ct at *;obtain ⟨ll,dl,ok⟩:=ct;dsimp only at *
 have hlo:(ByteArray.mk ll.toArray).size≤1000000:=Nat.le_trans hcl.1 hs;have hdo:(ByteArray.mk dl.toArray).size≤1000000:=Nat.le_trans hcl.2 hs;clear hM hcl;generalize ByteArray.mk ll.toArray=lo at *;generalize ByteArray.mk dl.toArray=dom at *;obtain ⟨R,HR⟩:∃ R,Hid ((ok && decide (s.size≤80) && L.localOk lo && (L.labels dom).all L.labelOk && decide (2≤(L.labels dom).length))=R):=⟨_,Lib.hid rfl⟩;rw [HR.out];obtain ⟨C,HC⟩:∃ C,Hid (Lib.contains lo.data.toList [46,46]=C):=⟨_,Lib.hid rfl⟩;obtain ⟨M,HB⟩:∃ M,Hid (lo.data.toList.all L.mailByte=M):=⟨_,Lib.hid rfl⟩;have Hcon:Hid (∀ w,MaxL w→Calls Tryz.prog 103 #[.string lo,.string ⟨#[46,46]⟩] w fun e w'=>e=.returned (.bool C)∧w=w'):=fun w h=>HC.out ▸ contains_any lo ⟨#[46,46]⟩ w (by omega) h;have Hall:Hid (∀ w,Calls Tryz.prog 191 #[.string lo,.func (.func 316) #[] #[]] w fun e w'=>e=.returned (.bool M)∧w=w'):=fun w=>HB.out ▸ all_any _ _ isMail1_pb lo w (by omega) (fun _ _=>by kernel_rfl);by_cases hz:1≤lo.size∧lo.size≤64
 ·have e1:decide ((1:Int)≤lo.size∧(lo.size:Int)≤64)=true:=by simp;omega
  have Hh:=Lib.hid (headD_at lo (by omega));have Hl:=Lib.hid (lastD_at lo (by omega));have hz1:lo.size - 1 < lo.size:=by omega
  have hz0:0 < lo.size:=by omega
  have ez:(lo.size:Int) - 1=((lo.size - 1:Nat):Int):=by omega
  have Hlok:Hid (L.localOk lo=(((lo[0].toNat:Int) != 46) && ((lo[lo.size - 1].toNat:Int) != 46) && !C && M)):=by
   show _=_;unfold L.localOk L.ends;rw [HC.out,HB.out,Hh.out,Hl.out,u8_ne _ 46 46 rfl,u8_ne _ 46 46 rfl];simp [hz]
  clear Hh Hl HC HB;rw [Hlok.out] at HR;clear Hlok;go_enter Tryz.func287,Tryz.ntmps287
  go_wp2_with fail
  refine (Hcut.out _ HM.out).mono ?_;rintro e w1 ⟨rfl,hl_w1⟩;have hz_w1:=hl_w1.size;have HM1:=Lib.hid (HM.out.below hl_w1);have Hb1:=Lib.hid hl_w1;clear hl_w1 Hcut HM;go_wp2_with (first | (go_at_call 53;refine (within_any _ _ _ _).mono ?_;rintro e _ ⟨rfl,rfl⟩;rw [e1]) | (go_at_call 191;refine (Hall.out _).mono ?_;rintro e _ ⟨rfl,rfl⟩) | (go_at_call 103;refine (Hcon.out _ HM1.out).mono ?_;rintro e _ ⟨rfl,rfl⟩))
  all_goals try
   go_ret;refine ⟨ret_b ?_,Hb1.out⟩;rw [← HR.out];clear HR;first
    | (simp_all;done)
    | (have h80:¬ s.size≤80:=by omega
       simp [h80];done)
    | (have hC:C=true:=by
        have hh:((80 < (s.size:Int)∨((lo[0].toNat:Int)==46)=true)∨((lo[lo.size - 1].toNat:Int)==46)=true)∨C=true:=by assumption
        rcases hh with ((h | h) | h) | h
        ·omega
        ·exact absurd (by simpa using h) ‹¬ (lo[0].toNat:Int)=46›
        ·exact absurd (by simpa using h) ‹¬ (lo[lo.size - 1].toNat:Int)=46›
        ·exact h
       simp [hC];done)
  have hfin:ok=true∧s.size≤80∧(lo[0].toNat:Int)≠46∧(lo[lo.size - 1].toNat:Int)≠46∧C=false∧M=true:=by
   refine ⟨by assumption,by omega,by assumption,by assumption,by simp_all,by simp_all⟩
  have HR2:Hid (((L.labels dom).all L.labelOk && decide (2≤(L.labels dom).length))=R):=by
   show _=_;rw [← HR.out];obtain ⟨h1,h2,h3,h4,h5,h6⟩:=hfin;have h3':((lo[0].toNat:Int) != 46)=true:=by simpa using h3
   have h4':((lo[lo.size - 1].toNat:Int) != 46)=true:=by simpa using h4
   rw [h1,h3',h4',h5,h6];simp [h2]
  clear hfin HR;refine (split_any dom _ (by omega) HM1.out).mono ?_;rintro e w2 ⟨blk,c,rfl,hblk,hcell,hl2⟩;have Hsz:Hid (∀ x∈L.labels dom,x.size≤1000000):=fun x hx=>Nat.le_trans (split_le _ _ _ x hx) hdo;have hlen:(L.labels dom).length≤1000001:=Nat.le_trans (Lib.splitB_length_le _ _ _ _) (by have:=Lib.countB_le ⟨#[46]⟩ (by decide) dom.size dom (Nat.le_refl _);omega);have Hc:=Lib.hid hcell;have Hb2:Hid (Below w.heap.size w w2):=Hb1.out.trans (hl2.mono hz_w1);clear hcell hl2 Hb1 HM1 Hall Hcon e1 ez;generalize L.labels dom=ls at *;go_wp2_with fail
  go_loopw [52] (fun i wr=>∃ k:Nat,k≤ls.length∧i=.int .i64 k∧wr=w2∧((ls.drop k).all L.labelOk && decide (2≤ls.length))=R) (fun i _=>ls.length - (intOf i).toNat)
  case atStart=>exact ⟨0,Nat.zero_le _,rfl,rfl,HR2.out⟩
  case round =>
   obtain ⟨k,hk,rfl,rfl,hr⟩:=hrel;have Hr:=Lib.hid hr;clear hr HR2;by_cases hlt:k < ls.length
   ·obtain ⟨x,hx⟩:∃ x,ls[k]? =some x:=⟨_,List.getElem?_eq_getElem hlt⟩;have hcx:=Hc.out k x hx;have hxs:=Hsz.out x (List.mem_of_getElem? hx);have Hs:Hid (((L.labelOk x && (ls.drop (k + 1)).all L.labelOk) && decide (2≤ls.length))=R):=by
     show _=_;rw [← Hr.out,List.drop_eq_getElem_cons hlt,List.all_cons];have:ls[k]=x:=by simpa [List.getElem?_eq_getElem hlt] using hx
     rw [this]
    clear hx Hr;go_wp2_with fail
    refine (isLabel_any x _ (by omega)).mono ?_;rintro e _ ⟨rfl,rfl⟩;by_cases hp:L.labelOk x=true
    ·rw [hp] at Hs ⊢;clear hp;go_wp2_with fail
     go_roundw
     case rel=>exact ⟨k + 1,by omega,by go_num,trivial,by rw [← Hs.out];simp⟩
     case measure=>simp [intOf];omega
    ·have hp':L.labelOk x=false:=by simpa using hp
     rw [hp'] at Hs ⊢;clear hp hp';go_wp2_with fail
     go_ret;exact ⟨ret_b (by rw [← Hs.out];simp),Hb2.out⟩
   ·go_wp2_with fail
    go_ret;exact ⟨ret_b (by rw [← Hr.out,List.drop_eq_nil_of_le (by omega)];rw [Bool.eq_iff_iff];simp;omega),Hb2.out⟩
 ·have e1:decide ((1:Int)≤lo.size∧(lo.size:Int)≤64)=false:=by simp;omega
  have E2:Hid (L.localOk lo=false):=by
   show _=_;have:(decide (1≤lo.size) && decide (lo.size≤64))=false:=by simp;omega
   unfold L.localOk;rw [this];rfl
  rw [E2.out] at HR;go_enter Tryz.func287,Tryz.ntmps287
  go_wp2_with fail
  refine (Hcut.out _ HM.out).mono ?_;rintro e w1 ⟨rfl,hl_w1⟩;have hz_w1:=hl_w1.size;go_wp2_with (first | (go_at_call 53;refine (within_any _ _ _ _).mono ?_;rintro e _ ⟨rfl,rfl⟩;rw [e1]))
  all_goals (go_ret;refine ⟨ret_b ?_,hl_w1⟩;rw [← HR.out];simp)
theorem extract_dropLast (s:ByteArray)(_:0 < s.size):(s.extract 0 (s.size - 1)).data.toList=s.data.toList.dropLast:=by
 rw [Lib.extract_from_zero,List.dropLast_eq_take];rfl
set_option maxHeartbeats 2000000 in
set_option maxRecDepth 100000 in
theorem checkId_any (k:Int)(s:ByteArray)(w:World)(hs:s.size≤1000000)(hM:MaxL w) :
  Calls Tryz.prog 219 #[.agg #[.int .i64 k,.string s]] w fun e w'=>e=.returned (.int .i64 (L.idFault k s))∧Below w.heap.size w w':=by
 have HM:=Lib.hid hM;clear hM;obtain ⟨R,HR⟩:∃ R,Hid (L.idFault k s=R):=⟨_,Lib.hid rfl⟩;rw [HR.out];have Hb:Hid (Below w.heap.size w (w.alloc (.cells #[.int .i64 k,.string s] 46))):=(Below.refl _ _).alloc (Nat.le_refl _) _;by_cases h1:k=1
 ·subst h1;have HR2:Hid ((if L.mailOk s then (0:Int) else 3)=R):=by show _=_;rw [← HR.out,L.idFault,if_pos rfl]
  clear HR;go_enter Tryz.func219,Tryz.ntmps219
  go_wp2_with fail
  refine (isMail_any s _ hs (HM.out.below Hb.out)).mono ?_;rintro e w1 ⟨rfl,hl_w1⟩;have hz_w1:=hl_w1.size;have Hb1:=Lib.hid (Hb.out.trans (hl_w1.mono (by simp)));have q1:w1.cell? ⟨w.heap.size,0,none⟩=some (.int .i64 1):=by rw [hl_w1.cell (p:=⟨w.heap.size,0,none⟩) (by simp),World.cell?_alloc_at _ _ _ _ rfl];rfl
  have q2:w1.cell? ⟨w.heap.size,1,none⟩=some (.string s):=by rw [hl_w1.cell (p:=⟨w.heap.size,1,none⟩) (by simp),World.cell?_alloc_at _ _ _ _ rfl];rfl
  clear hl_w1 Hb HM;by_cases hp:L.mailOk s=true
  ·rw [hp] at HR2 ⊢;clear hp;go_wp2_with fail
   go_quiet (fail)
   go_wp2_with fail
   go_ret;exact ⟨ret_i (by rw [← HR2.out];rfl),Hb1.out.trans (below_drewN _ _ _)⟩
  ·have hp':L.mailOk s=false:=by simpa using hp
   rw [hp'] at HR2 ⊢;clear hp hp';go_wp2_with fail
   go_ret;exact ⟨ret_i (by rw [← HR2.out];rfl),Hb1.out⟩
 ·by_cases h2:k=2
  ·subst h2;clear h1;have HR2:Hid ((if L.phoneOk s then (0:Int) else 3)=R):=by show _=_;rw [← HR.out,L.idFault];simp
   clear HR HM;by_cases hp:L.phoneOk s=true
   ·rw [hp] at HR2;go_enter Tryz.func219,Tryz.ntmps219
    go_wp2_with fail
    refine (isPhone_any s _ (by omega)).mono ?_;rintro e _ ⟨rfl,rfl⟩;rw [hp];clear hp;go_wp2_with fail
    go_quiet (fail)
    go_wp2_with fail
    go_ret;exact ⟨ret_i (by rw [← HR2.out];rfl),Hb.out.trans (below_drewN _ _ _)⟩
   ·have hp':L.phoneOk s=false:=by simpa using hp
    rw [hp'] at HR2;go_enter Tryz.func219,Tryz.ntmps219
    go_wp2_with fail
    refine (isPhone_any s _ (by omega)).mono ?_;rintro e _ ⟨rfl,rfl⟩;rw [hp'];clear hp hp';go_wp2_with fail
    go_ret;exact ⟨ret_i (by rw [← HR2.out];rfl),Hb.out⟩
  ·by_cases h4:k=4
   ·subst h4;clear h1 h2;have HR2:Hid ((if L.deviceOk s then (0:Int) else 3)=R):=by show _=_;rw [← HR.out,L.idFault];simp
    clear HR HM;by_cases hp:L.deviceOk s=true
    ·rw [hp] at HR2;go_enter Tryz.func219,Tryz.ntmps219
     go_wp2_with fail
     refine (isDevice_any s _ (by omega)).mono ?_;rintro e _ ⟨rfl,rfl⟩;rw [hp];clear hp;go_wp2_with fail
     go_quiet (fail)
     go_wp2_with fail
     go_ret;exact ⟨ret_i (by rw [← HR2.out];rfl),Hb.out.trans (below_drewN _ _ _)⟩
    ·have hp':L.deviceOk s=false:=by simpa using hp
     rw [hp'] at HR2;go_enter Tryz.func219,Tryz.ntmps219
     go_wp2_with fail
     refine (isDevice_any s _ (by omega)).mono ?_;rintro e _ ⟨rfl,rfl⟩;rw [hp'];clear hp hp';go_wp2_with fail
     go_ret;exact ⟨ret_i (by rw [← HR2.out];rfl),Hb.out⟩
   ·by_cases h3:k=3
    ·subst h3;clear h1 h2 h4 HM;have HR2:Hid ((if L.memberOk s then (if L.signAt (L.checkNo s.data.toList.dropLast)=s.data.toList.getLastD 0 then (0:Int) else 15) else 3)=R):=by show _=_;rw [← HR.out,L.idFault];simp
     clear HR;by_cases hp:L.memberOk s=true
     ·rw [hp,if_pos rfl] at HR2;have hmo:(4≤s.size∧s.size≤20)∧s.data.toList.all L.memberByte=true:=by
       unfold L.memberOk at hp;simp only [Bool.and_eq_true,decide_eq_true_eq] at hp;exact hp
      obtain ⟨⟨hm4,hm20⟩,hmb⟩:=hmo;have hdl:=extract_dropLast s (by omega);have hme:(s.extract 0 (s.size - 1)).data.toList.all L.memberByte=true:=by
       rw [hdl,List.all_eq_true];exact fun x hx=>List.all_eq_true.1 hmb x (List.dropLast_subset _ hx)
      have Hsg:Hid (∀ w,Calls Tryz.prog 291 #[.string (s.extract 0 (s.size - 1))] w fun e w'=>e=.returned (.int .u8 ((L.signAt (L.checkNo s.data.toList.dropLast)).toNat:Int))∧w'=w):=fun w=>(checkSign_any _ w (by rw [ByteArray.size_extract];omega) hme).mono fun e w' ⟨a,b⟩=>⟨by rw [a,hdl],b.symm⟩;rw [lastD_at s (by omega)] at HR2;generalize L.signAt (L.checkNo s.data.toList.dropLast)=sg at *;have hz1:s.size - 1 < s.size:=by omega
      have ez:(s.size:Int) - 1=((s.size - 1:Nat):Int):=by omega
      have hz2:s.size - 1≤s.size:=by omega
      clear hmb hdl hme;by_cases hq:sg=s[s.size - 1]
      ·rw [if_pos hq] at HR2;have e3:((sg.toNat:Int) != (s[s.size - 1].toNat:Int))=false:=by rw [hq];simp
       clear hq;go_enter Tryz.func219,Tryz.ntmps219
       go_wp2_with fail
       refine (isMember_any s _ (by omega)).mono ?_;rintro e _ ⟨rfl,rfl⟩;rw [hp];clear hp;go_wp2_with fail
       go_quiet ((go_at_call 291;exact Calls.quiet_of_same (Hsg.out _)))
       go_wp2_with fail
       go_ret;exact ⟨ret_i (by rw [← HR2.out]),Hb.out.trans (below_drewN _ _ _)⟩
      ·rw [if_neg hq] at HR2;have e3:((sg.toNat:Int) != (s[s.size - 1].toNat:Int))=true:=by
        rw [bne_iff_ne];intro h;exact hq (UInt8.toNat_inj.1 (by omega))
       clear hq;go_enter Tryz.func219,Tryz.ntmps219
       go_wp2_with fail
       refine (isMember_any s _ (by omega)).mono ?_;rintro e _ ⟨rfl,rfl⟩;rw [hp];clear hp;go_wp2_with fail
       go_quiet ((go_at_call 291;exact Calls.quiet_of_same (Hsg.out _)))
       go_wp2_with fail
       go_ret;exact ⟨ret_i (by rw [← HR2.out]),Hb.out.trans (below_drewN _ _ _)⟩
     ·have hp':L.memberOk s=false:=by simpa using hp
      rw [hp'] at HR2;go_enter Tryz.func219,Tryz.ntmps219
      go_wp2_with fail
      refine (isMember_any s _ (by omega)).mono ?_;rintro e _ ⟨rfl,rfl⟩;rw [hp'];clear hp hp';go_wp2_with fail
      go_ret;exact ⟨ret_i (by rw [← HR2.out];rfl),Hb.out⟩
    ·have e1:(k==1)=false:=by simpa using h1
     have e2:(k==2)=false:=by simpa using h2
     have e3:(k==3)=false:=by simpa using h3
     have e4:(k==4)=false:=by simpa using h4
     go_enter Tryz.func219,Tryz.ntmps219
     go_wp2_with fail
     go_ret;exact ⟨ret_i (by rw [← HR.out,L.idFault,if_neg h1,if_neg h2,if_neg h3,if_neg h4]),Hb.out⟩
end
section
open Go.RowKit
set_option maxHeartbeats 1000000 in
set_option maxRecDepth 100000 in
theorem refSign_any (s:ByteArray)(w:World)(hs:s.size≤1000)(hmb:s.data.toList.all L.memberByte=true) :
  Calls Tryz.prog 105 #[.string s] w fun e w'=>e=.returned (.int .i64 (L.checkNo s.data.toList:Int))∧w'=w:=by
 have Hmb:=Lib.hid hmb;have hsum:=L.sgnSum_le s.data.toList hmb;rw [show s.data.toList.length=s.size from rfl] at hsum;clear hmb;obtain ⟨R,HR⟩:∃ R,Hid (L.checkNo s.data.toList=R):=⟨_,Lib.hid rfl⟩;rw [HR.out];obtain ⟨T,HT⟩:∃ T,Hid (L.sgnSum s.data.toList=T):=⟨_,Lib.hid rfl⟩;rw [HT.out] at hsum;have HR2:Hid (R=(36 - T % 36) % 36):=by show _=_;rw [← HR.out,L.checkNo,HT.out]
 clear HR;go_enter Tryz.func105,Tryz.ntmps105
 go_wp2_with fail
 go_loopw [3,9] (fun a i wr=>∃ (k u:Nat),k≤s.size∧i=.int .i64 k∧a=.int .i64 u∧u + L.sgnSum (s.data.toList.drop k)=T∧wr=w) (fun _ i _=>s.size - (intOf i).toNat)
 case atStart=>exact ⟨0,0,Nat.zero_le _,rfl,rfl,by rw [List.drop_zero,HT.out,Nat.zero_add],rfl⟩
 case round =>
  obtain ⟨k,u,hk,rfl,rfl,hu,rfl⟩:=hrel;have hu2:u≤36 * s.size:=by omega
  have Hu:=Lib.hid hu;clear hu;by_cases hlt:k < s.size
  ·have hkl:k < s.data.toList.length:=hlt;have hmj:L.memberByte s[k]=true:=List.all_eq_true.1 Hmb.out _ (List.getElem_mem (l:=s.data.toList) hkl);have hlt2:=L.sgn_lt s[k] hmj;have Hstep:Hid (u + (L.q36 (if (s.size - (k + 1)) % 2=0 then 2 * L.sgn s[k] else L.sgn s[k]) + L.sgnSum (s.data.toList.drop (k + 1)))=T):=by
    show _=_;rw [← Hu.out,List.drop_eq_getElem_cons hkl,L.sgnSum,List.length_drop];rfl
   obtain ⟨v,hv⟩:∃ v:Nat,Lib.indexByte L.signs s[k]=(v:Int):=Int.eq_ofNat_of_zero_le hlt2.1;have hv36:v < 36:=by omega
   have Hv2:Hid (L.sgn s[k]=v):=by show _=_;rw [L.sgn,hv];rfl
   have Hix:Hid (∀ w,Calls Tryz.prog 189 #[.string ⟨#[48,49,50,51,52,53,54,55,56,57,65,66,67,68,69,70,71,72,73,74,75,76,77,78,79,80,81,82,83,84,85,86,87,88,89,90]⟩,.int .u8 (s[k].toNat:Int)] w fun e w'=>e=.returned (.int .i64 (v:Int))∧w=w'):=fun w=>hv ▸ indexByte_any ⟨#[48,49,50,51,52,53,54,55,56,57,65,66,67,68,69,70,71,72,73,74,75,76,77,78,79,80,81,82,83,84,85,86,87,88,89,90]⟩ s[k] w;have ek:(s.size:Int) - (k:Int)=((s.size - k:Nat):Int):=by omega
   rw [Hv2.out] at Hstep;clear hv hlt2 hmj Hu;by_cases hp:(s.size - (k + 1)) % 2=0
   ·rw [if_pos hp] at Hstep;have ep:(((s.size - k:Nat):Int) % 2==1)=true:=by simp;omega
    clear hp;go_wp2_with fail
    refine (Hix.out _).mono ?_;rintro e _ ⟨rfl,rfl⟩;clear Hix;go_wp2_with fail
    go_roundw
    case rel=>exact ⟨k + 1,u + L.q36 (2 * v),by omega,by go_num,by unfold L.q36;go_num,by rw [← Hstep.out];omega,trivial⟩
    case measure=>simp [intOf];omega
   ·rw [if_neg hp] at Hstep;have ep:(((s.size - k:Nat):Int) % 2==1)=false:=by simp;omega
    clear hp;go_wp2_with fail
    refine (Hix.out _).mono ?_;rintro e _ ⟨rfl,rfl⟩;clear Hix;go_wp2_with fail
    go_roundw
    case rel=>exact ⟨k + 1,u + L.q36 v,by omega,by go_num,by unfold L.q36;go_num,by rw [← Hstep.out];omega,trivial⟩
    case measure=>simp [intOf];omega
  ·have Hx:Hid (u=T):=by show _=_;rw [← Hu.out,show s.data.toList.drop k=[] from List.drop_eq_nil_of_le (by show s.size≤k;omega)];rfl
   clear Hu;go_wp2_with fail
   obtain ⟨wo,hwo⟩:∃ wo:World,wo=wr:=⟨_,rfl⟩;subst hwo;go_loopw [32] (fun i wi=>∃ c:Nat,c≤R∧i=.int .i64 c∧wi=wo) (fun i _=>36 - (intOf i).toNat)
   case atStart=>exact ⟨0,Nat.zero_le _,rfl,rfl⟩
   case round =>
    obtain ⟨c,hc,rfl,rfl⟩:=hrel;have hR:=HR2.out;have hx:=Hx.out;have hr36:R < 36:=by omega
    by_cases hcr:c=R
    ·have ec:(((u:Int) + (c:Int)) % 36==0)=true:=by simp;omega
     have Hcr:=Lib.hid hcr;clear hR hx hcr;go_wp2_with fail
     go_ret;exact ⟨ret_i (by rw [← Hcr.out]),rfl⟩
    ·have ec:(((u:Int) + (c:Int)) % 36==0)=false:=by simp;omega
     clear hR hx;go_wp2_with fail
     go_roundw
     case rel=>exact ⟨c + 1,by omega,by go_num,trivial⟩
     case measure=>simp [intOf];omega
theorem beq_bytes (a b:ByteArray):(a.toList==b.toList)=(a.data.toList==b.data.toList):=by
 rw [ByteArray.toList_eq,ByteArray.toList_eq]
theorem only_kind (cs:ByteArray)(p:UInt8→Bool)(hp:∀ c,cs.data.toList.contains c=p c)(hc:cs.size≤1000)(ha:cs.data.toList.all (fun b=>decide (b.toNat < 128))=true)(s:ByteArray)(w:World)(hs:s.size≤1000000000) :
  Calls Tryz.prog 101 #[.string s,.string cs] w fun e w'=>e=.returned (.bool (s.data.toList.all p))∧Below w.heap.size w w' :=
 (only_any s cs w hs hc ha).mono fun e w' ⟨h1,h2⟩=>⟨by rw [h1];congr 3;exact funext hp,h2⟩
def GivesTrim (s:ByteArray)(c:UInt8)(w:World)(e:Ending)(w':World):Prop:=∃ t:ByteArray,(t.toList==s.toList)=L.ends s.data.toList c∧e=.returned (.string t)∧Below w.heap.size w w'
theorem trim_ends (s:ByteArray)(c:UInt8)(hc:c.toNat < 128)(w:World)(hs:s.size≤1000000000)(h1:1≤s.size):Calls Tryz.prog 102 #[.string s,.string ⟨#[c]⟩] w (GivesTrim s c w):=by
 refine (Tryz.strings_Trim_ascii s ⟨#[c]⟩ w (by omega) (by simp [ByteArray.size]) (fun j b hb=>?_)).mono ?_
 ·cases j with
  | zero=>simp at hb;rw [← hb];exact hc
  | succ j=>simp at hb
 ·rintro e w' ⟨rfl,hl⟩;refine ⟨_,?_,rfl,hl⟩;rw [beq_bytes]
  exact L.trimS_same s.data.toList c (fun e=>by have:s.data.toList.length=0:=by rw [e];rfl
                                                have h2:s.data.toList.length=s.size:=rfl;omega)
set_option maxHeartbeats 4000000 in
set_option maxRecDepth 100000 in
theorem idFault_mail (s:ByteArray)(w:World)(hs:s.size≤1000000)(hM:MaxL w) :
  Calls Tryz.prog 37 #[.agg #[.int .i64 1,.string s]] w fun e w'=>e=.returned (.int .i64 (L.idFault 1 s))∧Below w.heap.size w w':=by
 have HM:=Lib.hid hM;have hcl:=cut_le s.data.toList [64];have Hcut:Hid (∀ w,MaxL w→Calls Tryz.prog 99 #[.string s,.string ⟨#[64]⟩] w fun e w'=>e=.returned (.tuple #[.string ⟨(Lib.cut s.data.toList [64]).1.toArray⟩,.string ⟨(Lib.cut s.data.toList [64]).2.1.toArray⟩,.bool (Lib.cut s.data.toList [64]).2.2])∧Below w.heap.size w w'):=fun w h=>cut_any s w (by omega) h ⟨#[64]⟩;have hid:L.idFault 1 s=if L.mailOk s then 0 else 3:=by rw [L.idFault,if_pos rfl]
 rw [hid];clear hid;unfold L.mailOk at *;generalize Lib.cut s.data.toList [64]=ct at *;obtain ⟨ll,dl,ok⟩:=ct;dsimp only at *
 have hlo:(ByteArray.mk ll.toArray).size≤1000000:=Nat.le_trans hcl.1 hs;have hdo:(ByteArray.mk dl.toArray).size≤1000000:=Nat.le_trans hcl.2 hs;clear hM hcl;generalize ByteArray.mk ll.toArray=lo at *;generalize ByteArray.mk dl.toArray=dom at *;obtain ⟨R,HR⟩:∃ R:Int,Hid ((if (ok && decide (s.size≤80) && L.localOk lo && (L.labels dom).all L.labelOk && decide (2≤(L.labels dom).length))=true then 0 else 3)=R):=⟨_,Lib.hid rfl⟩;rw [HR.out];have Hb:Hid (Below w.heap.size w (w.alloc (.cells #[.int .i64 1,.string s] 46))):=(Below.refl _ _).alloc (Nat.le_refl _) _;have HMb:=Lib.hid (HM.out.below Hb.out);go_enter Tryz.func37,Tryz.ntmps37
 go_wp2_with fail
 refine (Hcut.out _ HMb.out).mono ?_;rintro e w1 ⟨rfl,hl_w1⟩;have hz_w1:=hl_w1.size;have HM1:=Lib.hid (HMb.out.below hl_w1);have Hb1:=Lib.hid (Hb.out.trans (hl_w1.mono (by simp)));have hz1:=Hb1.out.size;clear hl_w1 hz_w1 HM HMb Hb Hcut;go_wp2_with fail
 refine (split_any dom _ (by omega) HM1.out).mono ?_;rintro e w2 ⟨blk,c,rfl,hblk,hcell,hl2⟩;have Hsz:Hid (∀ x∈L.labels dom,x.size≤1000000):=fun x hx=>Nat.le_trans (split_le _ _ _ x hx) hdo;have hlen:(L.labels dom).length≤1000001:=Nat.le_trans (Lib.splitB_length_le _ _ _ _) (by have:=Lib.countB_le ⟨#[46]⟩ (by decide) dom.size dom (Nat.le_refl _);omega);have Hc:=Lib.hid hcell;have Hb2:Hid (Below w.heap.size w w2):=Hb1.out.trans (hl2.mono hz1);have HM2:=Lib.hid (HM1.out.below hl2);have hz2:=hl2.size;clear hcell hl2 Hb1 HM1;generalize L.labels dom=ls at *;obtain ⟨B,HB⟩:∃ B,Hid ((ok && decide (s.size≤80) && L.localOk lo && decide (2≤ls.length))=B):=⟨_,Lib.hid rfl⟩;have HR2:Hid ((if (B && ls.all L.labelOk)=true then (0:Int) else 3)=R):=by
  show _=_;rw [← HR.out,← HB.out];cases ok <;> cases L.localOk lo <;> cases ls.all L.labelOk <;> simp
 clear HR;go_upto_region 8 with fail
 go_cut [4,7] (fun s4 _ wx=>s4=.bool B∧Below w2.heap.size w2 wx)
 case first =>
  by_cases hz:1≤lo.size∧lo.size≤64
  ·have e1:decide ((1:Int)≤lo.size∧(lo.size:Int)≤64)=true:=by simp;omega
   obtain ⟨C,HC⟩:∃ C,Hid (Lib.contains lo.data.toList [46,46]=C):=⟨_,Lib.hid rfl⟩;obtain ⟨M,HBm⟩:∃ M,Hid (lo.data.toList.all L.mailByte=M):=⟨_,Lib.hid rfl⟩;obtain ⟨E,HE⟩:∃ E,Hid (L.ends lo.data.toList 46=E):=⟨_,Lib.hid rfl⟩;have Hcon:Hid (∀ w,MaxL w→Calls Tryz.prog 103 #[.string lo,.string ⟨#[46,46]⟩] w fun e w'=>e=.returned (.bool C)∧w=w'):=fun w h=>HC.out ▸ contains_any lo ⟨#[46,46]⟩ w (by omega) h;have Hon:Hid (∀ w,Calls Tryz.prog 101 #[.string lo,.string ⟨#[97,98,99,100,101,102,103,104,105,106,107,108,109,110,111,112,113,114,115,116,117,118,119,120,121,122,48,49,50,51,52,53,54,55,56,57,46,45,95]⟩] w fun e w'=>e=.returned (.bool M)∧Below w.heap.size w w'):=fun w=>HBm.out ▸ only_kind _ _ L.mails_has (by decide) (by decide) lo w (by omega);have Htr:Hid (∀ w,Calls Tryz.prog 102 #[.string lo,.string ⟨#[46]⟩] w fun e w'=>∃ t:ByteArray,(t.toList==lo.toList)=E∧e=.returned (.string t)∧Below w.heap.size w w'):=fun w=>HE.out ▸ trim_ends lo 46 (by decide) w (by omega) hz.1;have HB2:Hid ((ok && decide (s.size≤80) && (E && !C && M) && decide (2≤ls.length))=B):=by
    show _=_;rw [← HB.out,L.localOk,HC.out,HBm.out,HE.out];simp [hz]
   clear HC HBm HE HB;go_wp2_with (first | (go_at_call 62;refine (in_any _ _ _ _).mono ?_;rintro e _ ⟨rfl,rfl⟩;rw [e1]) | (go_at_call 101;refine (Hon.out _).mono ?_;rintro e w3 ⟨rfl,hl3⟩;have hz3:=hl3.size) | (go_at_call 102;refine (Htr.out _).mono ?_;rintro e w4 ⟨t4,ht4,rfl,hl4⟩;have Ht4:=Lib.hid ht4;clear ht4;have hz4:=hl4.size) | (go_at_call 103;refine (Hcon.out _ ((HM2.out.below hl3).below hl4)).mono ?_;rintro e _ ⟨rfl,rfl⟩))
   all_goals
    go_meet;clear HR2 Hsz Hc Hb2 Hcon Hon Htr;first
     | (refine ⟨?_,Below.refl _ _⟩
        rw [← HB2.out];clear HB2;first
         | (simp_all;done)
         | (have h80:¬ s.size≤80:=by omega
            simp [h80];done))
     | (refine ⟨?_,hl3⟩;rw [← HB2.out];clear HB2;simp_all;done)
     | (refine ⟨?_,hl3.trans (hl4.mono hz3)⟩
        rw [← HB2.out,← Ht4.out];clear HB2 Ht4;have h80:s.size≤80:=by omega
        first
         | (have h1:¬ t4.toList=lo.toList:=by assumption
            simp [h1];done)
         | (have h1:C=true:=by assumption
            simp [h1];done)
         | (have h1:t4.toList=lo.toList:=by assumption
            have h2:ok=true:=by assumption
            have h3:M=true:=by assumption
            have h4:C=false:=by simpa using ‹¬ C=true›
            rw [h2,h3,h4,h1];simp [h80];omega))
  ·have e1:decide ((1:Int)≤lo.size∧(lo.size:Int)≤64)=false:=by simp;omega
   have E2:Hid (L.localOk lo=false):=by
    show _=_;have:(decide (1≤lo.size) && decide (lo.size≤64))=false:=by simp;omega
    unfold L.localOk;rw [this];rfl
   rw [E2.out] at HB;go_wp2_with (first | (go_at_call 62;refine (in_any _ _ _ _).mono ?_;rintro e _ ⟨rfl,rfl⟩;rw [e1]))
   all_goals (go_meet;exact ⟨by rw [← HB.out];simp,Below.refl _ _⟩)
 case rest =>
  obtain ⟨rfl,hlc⟩:=hcut;have Hbc:Hid (Below w.heap.size w wc):=Hb2.out.trans (hlc.mono (Nat.le_trans hz1 hz2));have Hcc:Hid (∀ i x,ls[i]? =some x→wc.cell? ⟨blk,i,none⟩=some (.string x)):=fun i x hx=>(hlc.cell (p:=⟨blk,i,none⟩) hblk).trans (Hc.out i x hx);have hblc:blk < wc.heap.size:=Nat.lt_of_lt_of_le hblk hlc.size;clear hlc Hc Hb2 HM2 HB;go_wp2_with fail
  go_loopw [4,60] (fun b4 i wr=>∃ (k:Nat) (B2:Bool),k≤ls.length∧i=.int .i64 k∧b4=.bool B2∧(if (B2 && (ls.drop k).all L.labelOk)=true then (0:Int) else 3)=R∧Below wc.heap.size wc wr) (fun _ i _=>ls.length - (intOf i).toNat)
  case atStart=>exact ⟨0,B,Nat.zero_le _,rfl,rfl,HR2.out,Below.refl _ _⟩
  case round =>
   clear HR2;obtain ⟨k,B2,hk,rfl,rfl,hr,hbr⟩:=hrel;have Hr:=Lib.hid hr;have Hbr:=Lib.hid hbr;have hzr:=hbr.size;clear hr hbr;by_cases hlt:k < ls.length
   ·obtain ⟨x,hx⟩:∃ x,ls[k]? =some x:=⟨_,List.getElem?_eq_getElem hlt⟩;have hcx:=(Hbr.out.cell (p:=⟨blk,k,none⟩) hblc).trans (Hcc.out k x hx);have hxs:=Hsz.out x (List.mem_of_getElem? hx);have Hs:Hid ((if (B2 && (L.labelOk x && (ls.drop (k + 1)).all L.labelOk))=true then (0:Int) else 3)=R):=by
     show _=_;rw [← Hr.out,List.drop_eq_getElem_cons hlt,List.all_cons];have:ls[k]=x:=by simpa [List.getElem?_eq_getElem hlt] using hx
     rw [this]
    clear hx Hr;by_cases hz:1≤x.size∧x.size≤30
    ·have e1:decide ((1:Int)≤x.size∧(x.size:Int)≤30)=true:=by simp;omega
     obtain ⟨M,HBm⟩:∃ M,Hid (x.data.toList.all L.labelByte=M):=⟨_,Lib.hid rfl⟩;obtain ⟨E,HE⟩:∃ E,Hid (L.ends x.data.toList 45=E):=⟨_,Lib.hid rfl⟩;have Hon:Hid (∀ w,Calls Tryz.prog 101 #[.string x,.string ⟨#[97,98,99,100,101,102,103,104,105,106,107,108,109,110,111,112,113,114,115,116,117,118,119,120,121,122,48,49,50,51,52,53,54,55,56,57,45]⟩] w fun e w'=>e=.returned (.bool M)∧Below w.heap.size w w'):=fun w=>HBm.out ▸ only_kind _ _ L.labels_has (by decide) (by decide) x w (by omega);have Htr:Hid (∀ w,Calls Tryz.prog 102 #[.string x,.string ⟨#[45]⟩] w fun e w'=>∃ t:ByteArray,(t.toList==x.toList)=E∧e=.returned (.string t)∧Below w.heap.size w w'):=fun w=>HE.out ▸ trim_ends x 45 (by decide) w (by omega) hz.1;have HL:Hid (L.labelOk x=(E && M)):=by show _=_;rw [L.labelOk,HBm.out,HE.out];simp [hz]
     rw [HL.out] at Hs;clear HBm HE HL;go_wp2_with (first | (go_at_call 62;refine (in_any _ _ _ _).mono ?_;rintro e _ ⟨rfl,rfl⟩;rw [e1]) | (go_at_call 101;refine (Hon.out _).mono ?_;rintro e w3 ⟨rfl,hl3⟩;have hz3:=hl3.size) | (go_at_call 102;refine (Htr.out _).mono ?_;rintro e w4 ⟨t4,ht4,rfl,hl4⟩;have Ht4:=Lib.hid ht4;clear ht4;have hz4:=hl4.size))
     all_goals
      go_roundw
      case rel =>
       clear Hsz Hcc Hon Htr;first
        | (refine ⟨k + 1,false,by omega,by go_num,rfl,?_,Hbr.out⟩;rw [← Hs.out];clear Hs;simp_all;done)
        | (refine ⟨k + 1,false,by omega,by go_num,rfl,?_,Hbr.out.trans (hl3.mono hzr)⟩;rw [← Hs.out];clear Hs;simp_all;done)
        | (refine ⟨k + 1,_,by omega,by go_num,rfl,?_,Hbr.out.trans ((hl3.mono hzr).trans (hl4.mono (Nat.le_trans hzr hz3)))⟩
           rw [← Hs.out,← Ht4.out];clear Hs Ht4;simp_all;done)
      case measure=>simp [intOf];omega
    ·have e1:decide ((1:Int)≤x.size∧(x.size:Int)≤30)=false:=by simp;omega
     have E2:Hid (L.labelOk x=false):=by
      show _=_;have:(decide (1≤x.size) && decide (x.size≤30))=false:=by simp;omega
      unfold L.labelOk;rw [this];rfl
     rw [E2.out] at Hs;go_wp2_with (first | (go_at_call 62;refine (in_any _ _ _ _).mono ?_;rintro e _ ⟨rfl,rfl⟩;rw [e1]))
     all_goals
      go_roundw
      case rel=>exact ⟨k + 1,false,by omega,by go_num,rfl,by rw [← Hs.out];simp,Hbr.out⟩
      case measure=>simp [intOf];omega
   ·have Hx:Hid ((if B2=true then (0:Int) else 3)=R):=by show _=_;rw [← Hr.out,List.drop_eq_nil_of_le (by omega)];simp
    clear Hr;cases B2;all_goals
     go_wp2_with fail
     go_ret;exact ⟨ret_i (by rw [← Hx.out];rfl),Hbc.out.trans (Hbr.out.mono (Hbc.out.size))⟩
theorem cutPrefix_any (s p:ByteArray)(w:World):Calls Tryz.prog 104 #[.string s,.string p] w fun e w'=>e=.returned (.tuple #[.string ⟨(Lib.trimPrefix s.data.toList p.data.toList).toArray⟩,.bool (Lib.hasPrefix s.data.toList p.data.toList)])∧w=w':=(Tryz.strings_CutPrefix s p w).mono fun _ _ ⟨h1,h2⟩=>⟨h1,h2.symm⟩
set_option maxHeartbeats 2000000 in
set_option maxRecDepth 100000 in
theorem idFault_phone (s:ByteArray)(w:World)(hs:s.size≤1000000) :
  Calls Tryz.prog 37 #[.agg #[.int .i64 2,.string s]] w fun e w'=>e=.returned (.int .i64 (L.idFault 2 s))∧Below w.heap.size w w':=by
 obtain ⟨R,HR⟩:∃ R:Int,Hid ((if L.phoneOk s then (0:Int) else 3)=R):=⟨_,Lib.hid rfl⟩;rw [show L.idFault 2 s=R by rw [← HR.out,L.idFault];simp];have Hb:Hid (Below w.heap.size w (w.alloc (.cells #[.int .i64 2,.string s] 46))):=(Below.refl _ _).alloc (Nat.le_refl _) _;have hz0:w.heap.size≤(w.alloc (.cells #[.int .i64 2,.string s] 46)).heap.size:=by simp
 have Hcp:Hid (∀ w,Calls Tryz.prog 104 #[.string s,.string ⟨#[43]⟩] w fun e w'=>e=.returned (.tuple #[.string ⟨(Lib.trimPrefix s.data.toList [43]).toArray⟩,.bool (Lib.hasPrefix s.data.toList [43])])∧w=w'):=fun w=>cutPrefix_any s ⟨#[43]⟩ w;by_cases hP:Lib.hasPrefix s.data.toList [43]=true
 ·have hr:(ByteArray.mk (Lib.trimPrefix s.data.toList [43]).toArray).data.toList=s.data.toList.drop 1:=by simp [Lib.trimPrefix,hP]
  have hrs:(ByteArray.mk (Lib.trimPrefix s.data.toList [43]).toArray).size=s.size - 1:=by
   show (Lib.trimPrefix s.data.toList [43]).length=_;rw [Lib.trimPrefix,if_pos hP,List.length_drop];rfl
  rw [hP] at Hcp;generalize ByteArray.mk (Lib.trimPrefix s.data.toList [43]).toArray=r at *;obtain ⟨M,HM⟩:∃ M,Hid ((s.data.toList.drop 1).all L.isDigit=M):=⟨_,Lib.hid rfl⟩;have Hon:Hid (∀ w,Calls Tryz.prog 101 #[.string r,.string ⟨#[48,49,50,51,52,53,54,55,56,57]⟩] w fun e w'=>e=.returned (.bool M)∧Below w.heap.size w w'):=fun w=>HM.out ▸ hr ▸ only_kind _ _ L.digits_has (by decide) (by decide) r w (by omega);by_cases hz:7≤r.size∧r.size≤15
  ·have e1:decide ((7:Int)≤r.size∧(r.size:Int)≤15)=true:=by simp;omega
   have Hh:=Lib.hid (headD_at r (by omega));rw [hr] at Hh;have hr0:0 < r.size:=by omega
   have HR2:Hid ((if (M && ((r[0].toNat:Int) != 48))=true then (0:Int) else 3)=R):=by
    show _=_;rw [← HR.out,L.phoneOk,hP,HM.out,Hh.out,u8_ne _ 48 48 rfl];have h8:(8≤s.size):=by omega
    have h16:s.size≤16:=by omega
    simp [h8,h16]
   have Hrs:=Lib.hid hrs;clear HR hP hr HM Hh hrs;go_enter Tryz.func37,Tryz.ntmps37
   go_wp2_with (first | (go_at_call 104;refine (Hcp.out _).mono ?_;rintro e _ ⟨rfl,rfl⟩) | (go_at_call 62;refine (in_any _ _ _ _).mono ?_;rintro e _ ⟨rfl,rfl⟩;rw [e1]) | (go_at_call 101;refine (Hon.out _).mono ?_;rintro e w3 ⟨rfl,hl3⟩))
   all_goals
    go_ret;refine ⟨ret_i ?_,Hb.out.trans (hl3.mono hz0)⟩;rw [← HR2.out];clear HR2 Hcp Hon Hb;simp_all
  ·have e1:decide ((7:Int)≤r.size∧(r.size:Int)≤15)=false:=by simp;omega
   have HR2:Hid (3=R):=by
    show _=_;rw [← HR.out,L.phoneOk];have h8:(decide (8≤s.size) && decide (s.size≤16))=false:=by simp;omega
    rw [Bool.and_assoc (Lib.hasPrefix _ _),h8];simp
   have Hrs:=Lib.hid hrs;clear HR hP hr HM hrs;go_enter Tryz.func37,Tryz.ntmps37
   go_wp2_with (first | (go_at_call 104;refine (Hcp.out _).mono ?_;rintro e _ ⟨rfl,rfl⟩) | (go_at_call 62;refine (in_any _ _ _ _).mono ?_;rintro e _ ⟨rfl,rfl⟩;rw [e1]))
   go_ret;exact ⟨ret_i (by rw [← HR2.out]),Hb.out⟩
 ·have hP':Lib.hasPrefix s.data.toList [43]=false:=by simpa using hP
  rw [hP'] at Hcp;have HR2:Hid (3=R):=by show _=_;rw [← HR.out,L.phoneOk,hP'];simp
  clear HR hP hP';go_enter Tryz.func37,Tryz.ntmps37
  go_wp2_with (first | (go_at_call 104;refine (Hcp.out _).mono ?_;rintro e _ ⟨rfl,rfl⟩))
  go_ret;exact ⟨ret_i (by rw [← HR2.out]),Hb.out⟩
set_option maxHeartbeats 2000000 in
set_option maxRecDepth 100000 in
theorem idFault_device (s:ByteArray)(w:World)(hs:s.size≤1000000) :
  Calls Tryz.prog 37 #[.agg #[.int .i64 4,.string s]] w fun e w'=>e=.returned (.int .i64 (L.idFault 4 s))∧Below w.heap.size w w':=by
 obtain ⟨M,HM⟩:∃ M,Hid (s.data.toList.all L.deviceByte=M):=⟨_,Lib.hid rfl⟩;obtain ⟨R,HR⟩:∃ R:Int,Hid ((if (decide (s.size=32) && M)=true then (0:Int) else 3)=R):=⟨_,Lib.hid rfl⟩;rw [show L.idFault 4 s=R by rw [← HR.out,L.idFault,L.deviceOk,HM.out];simp];have Hb:Hid (Below w.heap.size w (w.alloc (.cells #[.int .i64 4,.string s] 46))):=(Below.refl _ _).alloc (Nat.le_refl _) _;have hz0:w.heap.size≤(w.alloc (.cells #[.int .i64 4,.string s] 46)).heap.size:=by simp
 have Hon:Hid (∀ w,Calls Tryz.prog 101 #[.string s,.string ⟨#[48,49,50,51,52,53,54,55,56,57,97,98,99,100,101,102]⟩] w fun e w'=>e=.returned (.bool M)∧Below w.heap.size w w'):=fun w=>HM.out ▸ only_kind _ _ L.devices_has (by decide) (by decide) s w (by omega);clear HM;by_cases hz:s.size=32
 ·have e1:((s.size:Int)==32)=true:=by simp;omega
  have HR2:Hid ((if M=true then (0:Int) else 3)=R):=by show _=_;rw [← HR.out];simp [hz]
  clear HR hz;cases M;all_goals
   go_enter Tryz.func37,Tryz.ntmps37
   go_wp2_with (first | (go_at_call 101;refine (Hon.out _).mono ?_;rintro e w3 ⟨rfl,hl3⟩))
   go_ret;exact ⟨ret_i (by rw [← HR2.out];rfl),Hb.out.trans (hl3.mono hz0)⟩
 ·have e1:((s.size:Int)==32)=false:=by simp;omega
  have HR2:Hid (3=R):=by show _=_;rw [← HR.out];simp [hz]
  clear HR hz;go_enter Tryz.func37,Tryz.ntmps37
  go_wp2_with fail
  go_ret;exact ⟨ret_i (by rw [← HR2.out]),Hb.out⟩
set_option maxHeartbeats 2000000 in
set_option maxRecDepth 100000 in
theorem idFault_member (s:ByteArray)(w:World)(hs:s.size≤1000000) :
  Calls Tryz.prog 37 #[.agg #[.int .i64 3,.string s]] w fun e w'=>e=.returned (.int .i64 (L.idFault 3 s))∧Below w.heap.size w w':=by
 obtain ⟨R,HR⟩:∃ R:Int,Hid ((if L.memberOk s then (if L.signAt (L.checkNo s.data.toList.dropLast)=s.data.toList.getLastD 0 then (0:Int) else 15) else 3)=R):=⟨_,Lib.hid rfl⟩;rw [show L.idFault 3 s=R by rw [← HR.out,L.idFault];simp];have Hb:Hid (Below w.heap.size w (w.alloc (.cells #[.int .i64 3,.string s] 46))):=(Below.refl _ _).alloc (Nat.le_refl _) _;have hz0:w.heap.size≤(w.alloc (.cells #[.int .i64 3,.string s] 46)).heap.size:=by simp
 have Hon:Hid (∀ w,Calls Tryz.prog 101 #[.string s,.string ⟨#[48,49,50,51,52,53,54,55,56,57,65,66,67,68,69,70,71,72,73,74,75,76,77,78,79,80,81,82,83,84,85,86,87,88,89,90]⟩] w fun e w'=>e=.returned (.bool (s.data.toList.all L.memberByte))∧Below w.heap.size w w'):=fun w=>only_kind _ _ L.members_has (by decide) (by decide) s w (by omega);by_cases hz:4≤s.size∧s.size≤20
 ·have e1:decide ((4:Int)≤s.size∧(s.size:Int)≤20)=true:=by simp;omega
  by_cases hmb:s.data.toList.all L.memberByte=true
  ·rw [hmb] at Hon;have hmo:L.memberOk s=true:=by rw [L.memberOk,hmb];simp [hz]
   rw [hmo,if_pos rfl,lastD_at s (by omega)] at HR;have hdl:=extract_dropLast s (by omega);have hme:(s.extract 0 (s.size - 1)).data.toList.all L.memberByte=true:=by
    rw [hdl,List.all_eq_true];exact fun x hx=>List.all_eq_true.1 hmb x (List.dropLast_subset _ hx)
   have Hsg:Hid (∀ w,Calls Tryz.prog 105 #[.string (s.extract 0 (s.size - 1))] w fun e w'=>e=.returned (.int .i64 (L.checkNo s.data.toList.dropLast:Int))∧w'=w):=fun w=>hdl ▸ refSign_any _ w (by rw [ByteArray.size_extract];omega) hme;have hck:L.checkNo s.data.toList.dropLast < 36:=by unfold L.checkNo;omega
   have Hsat:=Lib.hid (signs_at _ hck);generalize L.checkNo s.data.toList.dropLast=ck at *;have hckI:(ck:Int) < 36:=by omega
   have hz1:s.size - 1 < s.size:=by omega
   have ez:(s.size:Int) - 1=((s.size - 1:Nat):Int):=by omega
   have hz2:s.size - 1≤s.size:=by omega
   have ew1:IntKind.i64.wrap ((s.size - 1:Nat):Int)=((s.size - 1:Nat):Int):=IntWalk.i64_in _ (by omega);have ew2:IntKind.i64.wrap ((s.size:Int) - 1)=((s.size - 1:Nat):Int):=(IntWalk.i64_in _ (by omega)).trans ez;clear hmb hdl hme hmo;by_cases hq:L.signAt ck=s[s.size - 1]
   ·rw [if_pos hq] at HR;have e3:(((⟨#[48,49,50,51,52,53,54,55,56,57,65,66,67,68,69,70,71,72,73,74,75,76,77,78,79,80,81,82,83,84,85,86,87,88,89,90]⟩:ByteArray)[ck].toNat:Int) != (s[s.size - 1].toNat:Int))=false:=by rw [Hsat.out,hq];simp
    clear hq Hsat;go_enter Tryz.func37,Tryz.ntmps37
    go_wp2_with (first | (go_at_call 62;refine (in_any _ _ _ _).mono ?_;rintro e _ ⟨rfl,rfl⟩;rw [e1]) | (go_at_call 101;refine (Hon.out _).mono ?_;rintro e w3 ⟨rfl,hl3⟩))
    refine wp_region_quiet_lit (by kernel_rfl) (by kernel_rfl) ?_;repeat (refine wpQuiet_step (fun K hK=>?_);go_simp;(try go_bits);(try simp (disch:=omega) only [if_pos]);(try simp (disch:=omega) only [if_neg]);(try go_simp);first | (refine hK _ ?_;clear hK K) | (apply Exists.intro;refine ⟨fun _=>?_,hK _ ?_⟩;(go_at_call 105;exact Calls.quiet_of_same (Hsg.out _));clear hK K))
    refine wpQuiet_nil ?_;intro _ hw';obtain ⟨nq,hw''⟩:=hw';subst hw'';go_wp2_with fail
    go_ret;exact ⟨ret_i (by rw [← HR.out]),(Hb.out.trans (hl3.mono hz0)).trans (below_drewN _ _ _)⟩
   ·rw [if_neg hq] at HR;have e3:(((⟨#[48,49,50,51,52,53,54,55,56,57,65,66,67,68,69,70,71,72,73,74,75,76,77,78,79,80,81,82,83,84,85,86,87,88,89,90]⟩:ByteArray)[ck].toNat:Int) != (s[s.size - 1].toNat:Int))=true:=by
     rw [Hsat.out,bne_iff_ne];intro h;exact hq (UInt8.toNat_inj.1 (by omega))
    clear hq Hsat;go_enter Tryz.func37,Tryz.ntmps37
    go_wp2_with (first | (go_at_call 62;refine (in_any _ _ _ _).mono ?_;rintro e _ ⟨rfl,rfl⟩;rw [e1]) | (go_at_call 101;refine (Hon.out _).mono ?_;rintro e w3 ⟨rfl,hl3⟩))
    refine wp_region_quiet_lit (by kernel_rfl) (by kernel_rfl) ?_;repeat (refine wpQuiet_step (fun K hK=>?_);go_simp;(try go_bits);(try simp (disch:=omega) only [if_pos]);(try simp (disch:=omega) only [if_neg]);(try go_simp);first | (refine hK _ ?_;clear hK K) | (apply Exists.intro;refine ⟨fun _=>?_,hK _ ?_⟩;(go_at_call 105;exact Calls.quiet_of_same (Hsg.out _));clear hK K))
    refine wpQuiet_nil ?_;intro _ hw';obtain ⟨nq,hw''⟩:=hw';subst hw'';go_wp2_with fail
    go_ret;exact ⟨ret_i (by rw [← HR.out]),(Hb.out.trans (hl3.mono hz0)).trans (below_drewN _ _ _)⟩
  ·have hmb':s.data.toList.all L.memberByte=false:=by simpa using hmb
   rw [hmb'] at Hon;have HR2:Hid (3=R):=by show _=_;rw [← HR.out,L.memberOk,hmb'];simp
   clear hmb hmb' HR;go_enter Tryz.func37,Tryz.ntmps37
   go_wp2_with (first | (go_at_call 62;refine (in_any _ _ _ _).mono ?_;rintro e _ ⟨rfl,rfl⟩;rw [e1]) | (go_at_call 101;refine (Hon.out _).mono ?_;rintro e w3 ⟨rfl,hl3⟩))
   go_quiet (fail)
   go_wp2_with fail
   go_ret;exact ⟨ret_i (by rw [← HR2.out]),(Hb.out.trans (hl3.mono hz0)).trans (below_drewN _ _ _)⟩
 ·have e1:decide ((4:Int)≤s.size∧(s.size:Int)≤20)=false:=by simp;omega
  have HR2:Hid (3=R):=by
   show _=_;have h8:(decide (4≤s.size) && decide (s.size≤20))=false:=by simp;omega
   rw [← HR.out,L.memberOk,h8];simp
  clear HR Hon;go_enter Tryz.func37,Tryz.ntmps37
  go_wp2_with (first | (go_at_call 62;refine (in_any _ _ _ _).mono ?_;rintro e _ ⟨rfl,rfl⟩;rw [e1]))
  go_quiet (fail)
  go_wp2_with fail
  go_ret;exact ⟨ret_i (by rw [← HR2.out]),Hb.out.trans (below_drewN _ _ _)⟩
theorem refId_any (k:Int)(s:ByteArray)(w:World)(hs:s.size≤1000000)(hM:MaxL w) :
  Calls Tryz.prog 37 #[.agg #[.int .i64 k,.string s]] w fun e w'=>e=.returned (.int .i64 (L.idFault k s))∧Below w.heap.size w w':=by
 by_cases h1:k=1
 ·subst h1;exact idFault_mail s w hs hM
 ·by_cases h2:k=2
  ·subst h2;exact idFault_phone s w hs
  ·by_cases h3:k=3
   ·subst h3;exact idFault_member s w hs
   ·by_cases h4:k=4
    ·subst h4;exact idFault_device s w hs
    ·have e1:(k==1)=false:=by simpa using h1
     have e2:(k==2)=false:=by simpa using h2
     have e3:(k==3)=false:=by simpa using h3
     have e4:(k==4)=false:=by simpa using h4
     obtain ⟨R,HR⟩:∃ R,Hid (L.idFault k s=R):=⟨_,Lib.hid rfl⟩;rw [HR.out];have Hb:Hid (Below w.heap.size w (w.alloc (.cells #[.int .i64 k,.string s] 46))):=(Below.refl _ _).alloc (Nat.le_refl _) _;go_enter Tryz.func37,Tryz.ntmps37
     go_wp2_with fail
     go_ret;exact ⟨ret_i (by rw [← HR.out,L.idFault,if_neg h1,if_neg h2,if_neg h3,if_neg h4]),Hb.out⟩
end
end Go.Proofs.YtmkkppknaikjjaaGreatDoor
