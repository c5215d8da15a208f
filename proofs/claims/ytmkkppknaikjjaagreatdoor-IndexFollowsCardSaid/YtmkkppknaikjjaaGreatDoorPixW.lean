/- Several texts in one: Key, WordLaw, Preds, Base, RefKey, Wrong. -/
import Derived.Test.YtmkkppknaikjjaaGreatDoorPixB
import Derived.Lib.SlTrimSet
import Derived.Lib.ValidLaws
import Derived.Shelf.Unicode.DecodeSlow
import Derived.Test.YtmkkppknaikjjaaGreatDoorShix
/- What the small predicates on bytes and numbers of package person return: within, digit, small, capital, all. -/
namespace Go.Proofs.YtmkkppknaikjjaaGreatDoor
open Go.RowKit
theorem small_any (n:Int)(w:World):Calls Tryz.prog 190 #[.int .u8 n] w fun e w'=>e=.returned (.bool (decide (97≤n∧n≤122)))∧w=w':=by
 by_cases h1:97≤n <;> by_cases h2:n≤122
 all_goals
  simp only [h1,h2,and_true,and_false,decide_true,decide_false];go_enter Tryz.func190,Tryz.ntmps190
  go_wp2
  go_ret;exact ⟨rfl,rfl⟩
theorem within_any (n a b:Int)(w:World):Calls Tryz.prog 53 #[.int .i64 n,.int .i64 a,.int .i64 b] w fun e w'=>e=.returned (.bool (decide (a≤n∧n≤b)))∧w=w':=by
 by_cases h1:a≤n <;> by_cases h2:n≤b
 all_goals
  simp only [h1,h2,and_true,and_false,decide_true,decide_false];go_enter Tryz.func53,Tryz.ntmps53
  go_wp2
  go_ret;exact ⟨rfl,rfl⟩
theorem digit_any (n:Int)(w:World):Calls Tryz.prog 193 #[.int .u8 n] w fun e w'=>e=.returned (.bool (decide (48≤n∧n≤57)))∧w=w':=by
 by_cases h1:48≤n <;> by_cases h2:n≤57
 all_goals
  simp only [h1,h2,and_true,and_false,decide_true,decide_false];go_enter Tryz.func193,Tryz.ntmps193
  go_wp2
  go_ret;exact ⟨rfl,rfl⟩
theorem capital_any (n:Int)(w:World):Calls Tryz.prog 319 #[.int .u8 n] w fun e w'=>e=.returned (.bool (decide (65≤n∧n≤90)))∧w=w':=by
 by_cases h1:65≤n <;> by_cases h2:n≤90
 all_goals
  simp only [h1,h2,and_true,and_false,decide_true,decide_false];go_enter Tryz.func319,Tryz.ntmps319
  go_wp2
  go_ret;exact ⟨rfl,rfl⟩
abbrev PB (g:Nat)(p:UInt8→Bool):Prop:=∀ (c:UInt8) (w:World),Calls Tryz.prog g #[.int .u8 (c.toNat:Int)] w fun e w'=>e=.returned (.bool (p c))∧w=w'
set_option maxHeartbeats 1000000 in
set_option maxRecDepth 100000 in
theorem all_any (g:Nat)(p:UInt8→Bool)(hp:PB g p)(s:ByteArray)(w:World)(hs:s.size≤1000000000)(eg:∀ args w,(callFunc g args).run Tryz.prog w=.ok (.enter g args) w) :
  Calls Tryz.prog 191 #[.string s,.func (.func g) #[] #[]] w fun e w'=>e=.returned (.bool (s.data.toList.all p))∧w=w':=by
 obtain ⟨R,HR⟩:∃ R,Hid (s.data.toList.all p=R):=⟨_,Lib.hid rfl⟩;rw [HR.out];have hsl:s.data.toList.length=s.size:=rfl;have Hsl:=Lib.hid hsl;clear hsl;go_enter Tryz.func191,Tryz.ntmps191
 go_wp2_with fail
 go_loopw [8] (fun i wr=>∃ k:Nat,k≤s.size∧i=.int .i64 k∧wr=w∧(s.data.toList.take k).all p=true) (fun i _=>s.size - (intOf i).toNat)
 case atStart=>exact ⟨0,Nat.zero_le _,rfl,rfl,by simp⟩
 case round =>
  obtain ⟨k,hk,rfl,rfl,hr⟩:=hrel;have Hr:=Lib.hid hr;clear hr;by_cases hlt:k < s.size
  ·by_cases hc:p s[k]=true
   ·have Hc:=Lib.hid hc;go_wp2_with fail
    refine (hp _ _).mono ?_;rintro e w1 ⟨rfl,rfl⟩;rw [hc];clear hc;go_wp2_with fail
    go_roundw
    case rel =>
     refine ⟨k + 1,by omega,by go_num,trivial,?_⟩;rw [List.take_succ_eq_append_getElem (by rw [Hsl.out];exact hlt),List.all_append,Hr.out];simp only [List.all_cons,List.all_nil,Bool.and_true,Bool.true_and];exact Hc.out
    case measure=>simp [intOf];omega
   ·have hc':p s[k]=false:=by simpa using hc
    have HF:Hid (false=R):=by
     show _=_;rw [← HR.out];symm
     rw [List.all_eq_false];exact ⟨s[k],List.getElem_mem (l:=s.data.toList) (by rw [Hsl.out];exact hlt),by simpa using hc'⟩
    go_wp2_with fail
    refine (hp _ _).mono ?_;rintro e w1 ⟨rfl,rfl⟩;rw [hc'];clear hc hc';go_wp2
    go_ret;exact ⟨by simp [← HF.out],rfl⟩
  ·have HF:Hid (true=R):=by
    show _=_;rw [← HR.out,← Hr.out,List.take_of_length_le (by rw [Hsl.out];omega)]
   go_wp2
   go_ret;exact ⟨by simp [← HF.out],rfl⟩
end Go.Proofs.YtmkkppknaikjjaaGreatDoor
namespace Go.Proofs.YtmkkppknaikjjaaGreatDoor.L
open Go
theorem dropWhile_nil {α:Type}(p:α→Bool)(l:List α):l.dropWhile p=[] ↔ ∀ x∈l,p x=true:=by
 induction l with
 | nil=>simp
 | cons a t ih =>
  by_cases h:p a=true
  ·rw [List.dropWhile_cons_of_pos h,ih];simp [h]
  ·rw [List.dropWhile_cons_of_neg h];simp [h]
theorem mem_dropWhile {α:Type}(p:α→Bool){l:List α}{x:α}(hx:x∈l)(hp:p x=false):x∈l.dropWhile p:=by
 induction l with
 | nil=>cases hx
 | cons a t ih =>
  by_cases h:p a=true
  ·rw [List.dropWhile_cons_of_pos h];rcases List.mem_cons.1 hx with rfl | h2
   ·rw [h] at hp;cases hp
   ·exact ih h2
  ·rw [List.dropWhile_cons_of_neg h];exact hx
theorem trimS_nil (l cs:List UInt8):Lib.trimS l cs=[] ↔ l.all (cs.contains ·)=true:=by
 unfold Lib.trimS Lib.trimLeftS Lib.trimRightS;rw [dropWhile_nil,List.all_eq_true];constructor
 ·intro h x hx;by_cases hp:cs.contains x=true
  ·exact hp
  ·exact h x (by rw [List.mem_reverse];exact mem_dropWhile _ (by simpa using hx) (by simpa using hp))
 ·intro h x hx;rw [List.mem_reverse] at hx;exact h x (by simpa using (List.dropWhile_sublist _).subset hx)
theorem trimS_isEmpty (l cs:List UInt8):(Lib.trimS l cs).isEmpty=l.all (cs.contains ·):=by
 rw [Bool.eq_iff_iff,List.isEmpty_iff,trimS_nil]
theorem byte_all {p:UInt8→Prop}(h:∀ n:Fin 256,p (UInt8.ofNat n.val))(c:UInt8):p c:=by
 have:=h ⟨c.toNat,c.toNat_lt⟩
 simpa using this
def isSmall (c:UInt8):Bool:=decide (97≤c.toNat) && decide (c.toNat≤122)
def isDigit (c:UInt8):Bool:=decide (48≤c.toNat) && decide (c.toNat≤57)
def isCapital (c:UInt8):Bool:=decide (65≤c.toNat) && decide (c.toNat≤90)
def keyByte (c:UInt8):Bool:=isSmall c || isDigit c || c.toNat==45 || c.toNat==95
def isKey (s:ByteArray):Bool:=decide (1≤s.size) && decide (s.size≤40) && isSmall (s.data.toList.headD 0) && s.data.toList.all keyByte
def textByte (c:UInt8):Bool:=decide (32≤c.toNat) && c.toNat != 127
def smallsL:List UInt8:=[97,98,99,100,101,102,103,104,105,106,107,108,109,110,111,112,113,114,115,116,117,118,119,120,121,122]
def digitsL:List UInt8:=[48,49,50,51,52,53,54,55,56,57]
def capitalsL:List UInt8:=[65,66,67,68,69,70,71,72,73,74,75,76,77,78,79,80,81,82,83,84,85,86,87,88,89,90]
set_option maxRecDepth 100000 in
theorem smalls_has (c:UInt8):smallsL.contains c=isSmall c:=byte_all (p:=fun c=>smallsL.contains c=isSmall c) (by decide +kernel) c
set_option maxRecDepth 100000 in
theorem digits_has (c:UInt8):digitsL.contains c=isDigit c:=byte_all (p:=fun c=>digitsL.contains c=isDigit c) (by decide +kernel) c
set_option maxRecDepth 100000 in
theorem keys_has (c:UInt8):(smallsL++digitsL++[45,95]).contains c=keyByte c:=byte_all (p:=fun c=>(smallsL++digitsL++[45,95]).contains c=keyByte c) (by decide +kernel) c
theorem decodeN_parts (n b0 b1 b2 b3:Nat)(_:1≤n):(Lib.decodeN n b0 b1 b2 b3=(b0,1)∧b0 < 128)∨(Lib.decodeN n b0 b1 b2 b3=(65533,1)∧128≤b0) ∨
  (128≤(Lib.decodeN n b0 b1 b2 b3).1∧2≤(Lib.decodeN n b0 b1 b2 b3).2∧(Lib.decodeN n b0 b1 b2 b3).2≤4∧(Lib.decodeN n b0 b1 b2 b3).2≤n∧128≤b0∧128≤b1∧(3≤(Lib.decodeN n b0 b1 b2 b3).2→128≤b2)∧(4≤(Lib.decodeN n b0 b1 b2 b3).2→128≤b3)):=by
 unfold Lib.decodeN;repeat' split
 all_goals first
  | (left;exact ⟨rfl,by omega⟩)
  | (right;left;exact ⟨rfl,by omega⟩)
  | (right;right;dsimp only;omega)
end Go.Proofs.YtmkkppknaikjjaaGreatDoor.L
namespace Go.Proofs.YtmkkppknaikjjaaGreatDoor
section
open Go.RowKit
theorem ret_b {a b:Bool}(h:a=b):Ending.returned (.bool a)=.returned (.bool b):=by rw [h]
theorem ret_i {k:IntKind}{a b:Int}(h:a=b):Ending.returned (.int k a)=.returned (.int k b):=by rw [h]
theorem small_pb:PB 190 L.isSmall:=fun c w=>(small_any c.toNat w).mono fun e w' ⟨h1,h2⟩=>⟨by rw [h1];congr 2;unfold L.isSmall;rw [Bool.eq_iff_iff];simp;omega,h2⟩
theorem digit_pb:PB 193 L.isDigit:=fun c w=>(digit_any c.toNat w).mono fun e w' ⟨h1,h2⟩=>⟨by rw [h1];congr 2;unfold L.isDigit;rw [Bool.eq_iff_iff];simp;omega,h2⟩
theorem capital_pb:PB 319 L.isCapital:=fun c w=>(capital_any c.toNat w).mono fun e w' ⟨h1,h2⟩=>⟨by rw [h1];congr 2;unfold L.isCapital;rw [Bool.eq_iff_iff];simp;omega,h2⟩
theorem isKey1_pb:PB 192 L.keyByte:=by
 intro c w;unfold L.keyByte;by_cases h1:L.isSmall c=true
 ·go_enter Tryz.func192,Tryz.ntmps192
  go_wp2_with fail
  refine (small_pb c _).mono ?_;rintro e _ ⟨rfl,rfl⟩;rw [h1];go_wp2_with fail
  go_ret;exact ⟨by simp [h1],rfl⟩
 ·have h1:L.isSmall c=false:=by simpa using h1
  by_cases h2:L.isDigit c=true
  ·go_enter Tryz.func192,Tryz.ntmps192
   go_wp2_with fail
   refine (small_pb c _).mono ?_;rintro e _ ⟨rfl,rfl⟩;rw [h1];go_wp2_with fail
   refine (digit_pb c _).mono ?_;rintro e _ ⟨rfl,rfl⟩;rw [h2];go_wp2_with fail
   go_ret;exact ⟨by simp [h1,h2],rfl⟩
  ·have h2:L.isDigit c=false:=by simpa using h2
   go_enter Tryz.func192,Tryz.ntmps192
   go_wp2_with fail
   refine (small_pb c _).mono ?_;rintro e _ ⟨rfl,rfl⟩;rw [h1];go_wp2_with fail
   refine (digit_pb c _).mono ?_;rintro e _ ⟨rfl,rfl⟩;rw [h2];go_wp2_with fail
   all_goals
    go_ret;refine ⟨ret_b ?_,rfl⟩;rw [Bool.eq_iff_iff];simp [h1,h2];omega
theorem checkText1_pb:PB 331 L.textByte:=by
 intro c w;unfold L.textByte;go_enter Tryz.func331,Tryz.ntmps331
 go_wp2_with fail
 all_goals
  go_ret;refine ⟨ret_b ?_,rfl⟩;rw [Bool.eq_iff_iff];simp;omega
theorem headD_at (s:ByteArray)(h:0 < s.size):s.data.toList.headD 0=s[0]:=by
 obtain ⟨⟨l⟩⟩:=s;cases l with
 | nil=>simp [ByteArray.size] at h
 | cons a t=>rfl
theorem isKey_any (s:ByteArray)(w:World)(hs:s.size≤1000000000) :
  Calls Tryz.prog 113 #[.string s] w fun e w'=>e=.returned (.bool (L.isKey s))∧w=w':=by
 unfold L.isKey;by_cases h1:1≤s.size∧s.size≤40
 ·have e1:decide ((1:Int)≤s.size∧(s.size:Int)≤40)=true:=by simp;omega
  have hh:=headD_at s (by omega);have Hh:Hid (s.data.toList.headD 0=s[0]'(by omega)):=Lib.hid hh;have hs0:0 < s.size:=by omega
  rw [Hh.out];clear hh;by_cases h2:L.isSmall (s[0]'(by omega))=true
  ·go_enter Tryz.func113,Tryz.ntmps113
   go_wp2_with fail
   refine (within_any _ _ _ _).mono ?_;rintro e _ ⟨rfl,rfl⟩;rw [e1];go_wp2_with fail
   refine (small_pb _ _).mono ?_;rintro e _ ⟨rfl,rfl⟩;rw [h2];go_wp2_with fail
   refine (all_any _ _ isKey1_pb s _ hs (fun _ _=>by kernel_rfl)).mono ?_;rintro e _ ⟨rfl,rfl⟩;go_wp2_with fail
   go_ret;exact ⟨by simp [h1,h2],rfl⟩
  ·have h2:L.isSmall (s[0]'(by omega))=false:=by simpa using h2
   go_enter Tryz.func113,Tryz.ntmps113
   go_wp2_with fail
   refine (within_any _ _ _ _).mono ?_;rintro e _ ⟨rfl,rfl⟩;rw [e1];go_wp2_with fail
   refine (small_pb _ _).mono ?_;rintro e _ ⟨rfl,rfl⟩;rw [h2];go_wp2_with fail
   go_ret;exact ⟨by simp [h1,h2],rfl⟩
 ·have e1:decide ((1:Int)≤s.size∧(s.size:Int)≤40)=false:=by simp;omega
  have e2:(decide (1≤s.size) && decide (s.size≤40))=false:=by simp;omega
  rw [e2];go_enter Tryz.func113,Tryz.ntmps113
  go_wp2_with fail
  refine (within_any _ _ _ _).mono ?_;rintro e _ ⟨rfl,rfl⟩;rw [e1];go_wp2_with fail
  go_ret;exact ⟨by simp,rfl⟩
end
section
open Go.RowKit
theorem Sl.int {N:Nat→Prop}{w:World}{A:Option Addr}{xs:List Int}(h:Sl rInt N w A xs)(k:Nat)(c:Int)(hk:xs[k]? =some c):∃ blk off,A=some ⟨blk,off,none⟩∧blk < w.heap.size∧w.cell? ⟨blk,off + k,none⟩=some (.int .i64 c):=by
 obtain ⟨blk,off,l,e,h1,_,h3,h4⟩:=h k c hk;obtain rfl:l=[.int .i64 c]:=h3;have:=h4 0 _ rfl
 exact ⟨blk,off,e,h1,by simpa [rInt,Rep.flat] using this⟩
theorem Sl.str {N:Nat→Prop}{w:World}{A:Option Addr}{xs:List ByteArray}(h:Sl rStr N w A xs)(k:Nat)(c:ByteArray)(hk:xs[k]? =some c):∃ blk off,A=some ⟨blk,off,none⟩∧blk < w.heap.size∧w.cell? ⟨blk,off + k,none⟩=some (.string c):=by
 obtain ⟨blk,off,l,e,h1,_,h3,h4⟩:=h k c hk;obtain rfl:l=[.string c]:=h3;have:=h4 0 _ rfl
 exact ⟨blk,off,e,h1,by simpa [rStr,Rep.flat] using this⟩
theorem Sl.block {α:Type}{r:Rep α}{N:Nat→Prop}{w:World}{A:Option Addr}{x:α}{xs:List α}(h:Sl r N w A (x::xs)):∃ blk off,A=some ⟨blk,off,none⟩:=by
 obtain ⟨blk,off,l,e,_⟩:=h 0 x rfl;exact ⟨blk,off,e⟩
theorem drop_at3 {α:Type}{xs:List α}{k:Nat}{s:α}(h:xs[k]? =some s):xs.drop k=s::xs.drop (k + 1):=by
 obtain ⟨hlt,rfl⟩:=List.getElem?_eq_some_iff.1 h;exact List.drop_eq_getElem_cons hlt
theorem LV.kb3 {w w':World}{X B:Nat}{cs:Array Value}{T:TypeId}(h:LV w X cs T)(k:Below B w w')(hb:X < B):LV w' X cs T:=(k.block X hb).trans h
theorem step_no {e x R:Int}(h:(if e≠0 then e else x)=R)(he:e≠0):e=R:=by rw [if_pos he] at h;exact h
theorem step_go {e x R:Int}(h:(if e≠0 then e else x)=R)(he:e=0):x=R:=by rw [if_neg (by simp [he])] at h;exact h
theorem take_snoc {α:Type}{xs:List α}{k:Nat}{x:α}(h:xs[k]? =some x):xs.take (k + 1)=xs.take k++[x]:=by rw [List.take_add_one,h];rfl
def ahd {α:Type}(xs:List α)(k:Nat):Option α:=if k=0 then none else xs[k - 1]?
theorem ahd_succ {α:Type}(xs:List α)(k:Nat)(x:α)(h:xs[k]? =some x):ahd xs (k + 1)=some x:=by rw [ahd,if_neg (by omega)];exact h
theorem step_is {e x R v:Int}(h:(if e≠0 then e else x)=R)(he:e=v)(hv:v≠0):v=R:=by subst he;exact step_no h hv
theorem beqS {a b:ByteArray}:(a.toList==b.toList)=true ↔ a=b:=by
 rw [beq_iff_eq,ByteArray.toList_eq,ByteArray.toList_eq];exact ⟨fun h=>WideShapes.bytes_inj (by simpa using h),fun h=>by rw [h]⟩
theorem results_cs {P:Program}{fn:Func}{t s:Tmp}{T:TypeId}{a:Addr}{v u:Value}{w:World}{tmps:Array Value}(h:fn.results=#[.cell t T,.tmp s])(hp:tmps.getD t undef=.pointer (some a))(hs:tmps.getD s undef=u)(hl:(loadVar T a).run P w=.ok v w):(results fn tmps).run P w=.ok (.tuple #[v,u]) w:=by
 have hp':tmps[t]?.getD undef=.pointer (some a):=by simpa using hp
 have hs':tmps[s]?.getD undef=u:=by simpa using hs
 simp [results,h,asAddr,hp',hs',hl]
end
section
open Go.RowKit
theorem in_any (n a b:Int)(w:World):Calls Tryz.prog 62 #[.int .i64 n,.int .i64 a,.int .i64 b] w fun e w'=>e=.returned (.bool (decide (a≤n∧n≤b)))∧w=w':=by
 by_cases h1:a≤n <;> by_cases h2:n≤b
 all_goals
  simp only [h1,h2,and_true,and_false,decide_true,decide_false];go_enter Tryz.func62,Tryz.ntmps62
  go_wp2
  go_ret;exact ⟨rfl,rfl⟩
theorem only_any (s cs:ByteArray)(w:World)(hs:s.size≤1000000000)(hc:cs.size≤1000)(ha:cs.data.toList.all (fun b=>decide (b.toNat < 128))=true) :
  Calls Tryz.prog 101 #[.string s,.string cs] w fun e w'=>e=.returned (.bool (s.data.toList.all (cs.data.toList.contains ·)))∧Below w.heap.size w w':=by
 have Ha:Hid (∀ (j:Nat) b,cs.data.toList[j]? =some b→b.toNat < 128):=fun j b h=>by
  have:=List.all_eq_true.1 ha b (List.mem_of_getElem? h)
  simpa using this
 clear ha;rw [← L.trimS_isEmpty];have Hc:Hid (∀ w,Calls Tryz.prog 102 #[.string s,.string cs] w fun e w'=>e=.returned (.string ⟨(Lib.trimS s.data.toList cs.data.toList).toArray⟩)∧Below w.heap.size w w'):=fun w=>Tryz.strings_Trim_ascii s cs w (by omega) (by omega) Ha.out;generalize Lib.trimS s.data.toList cs.data.toList=t at *;go_enter Tryz.func101,Tryz.ntmps101
 go_wp2_with fail
 refine (Hc.out _).mono ?_;rintro e w1 ⟨rfl,hl_w1⟩;have hz_w1:=hl_w1.size;go_wp2_with fail
 go_ret;exact ⟨rfl,hl_w1⟩
theorem Key_any (s:ByteArray)(w:World)(hs:s.size≤1000000000) :
  Calls Tryz.prog 61 #[.string s] w fun e w'=>e=.returned (.bool (L.isKey s))∧Below w.heap.size w w':=by
 have Ho:Hid (∀ w t,t.size≤1000000000→Calls Tryz.prog 101 #[.string t,.string ⟨#[97,98,99,100,101,102,103,104,105,106,107,108,109,110,111,112,113,114,115,116,117,118,119,120,121,122]⟩] w fun e w'=>e=.returned (.bool (t.data.toList.all L.isSmall))∧Below w.heap.size w w'):=fun w t h =>
  (only_any t ⟨#[97,98,99,100,101,102,103,104,105,106,107,108,109,110,111,112,113,114,115,116,117,118,119,120,121,122]⟩ w h (by decide) (by decide)).mono fun e w' ⟨h1,h2⟩=>⟨by rw [h1];congr 3;exact funext L.smalls_has,h2⟩
 have Hk:Hid (∀ w,Calls Tryz.prog 101 #[.string s,.string ⟨#[97,98,99,100,101,102,103,104,105,106,107,108,109,110,111,112,113,114,115,116,117,118,119,120,121,122,48,49,50,51,52,53,54,55,56,57,45,95]⟩] w fun e w'=>e=.returned (.bool (s.data.toList.all L.keyByte))∧Below w.heap.size w w'):=fun w =>
  (only_any s ⟨#[97,98,99,100,101,102,103,104,105,106,107,108,109,110,111,112,113,114,115,116,117,118,119,120,121,122,48,49,50,51,52,53,54,55,56,57,45,95]⟩ w hs (by decide) (by decide)).mono fun e w' ⟨h1,h2⟩=>⟨by rw [h1];congr 3;exact funext L.keys_has,h2⟩
 obtain ⟨R,HR⟩:∃ R,Hid (L.isKey s=R):=⟨_,Lib.hid rfl⟩;rw [HR.out];by_cases h1:1≤s.size∧s.size≤40
 ·have e1:decide ((1:Int)≤s.size∧(s.size:Int)≤40)=true:=by simp;omega
  have hs0:1≤s.size:=h1.1;have E2:Hid ((decide (1≤s.size) && decide (s.size≤40))=true):=by show _=_;simp [h1]
  have Ht:Hid ((s.extract 0 1).data.toList.all L.isSmall=L.isSmall (s.data.toList.headD 0)):=by
   show _=_;obtain ⟨⟨l⟩⟩:=s;cases l with
   | nil=>simp [ByteArray.size] at hs0
   | cons a t=>rw [Lib.extract_data];simp
  have Hx:Hid ((s.extract 0 1).size≤1000000000):=by show _≤_;rw [ByteArray.size_extract];omega
  have Ho1:Hid (∀ w,Calls Tryz.prog 101 #[.string (s.extract 0 1),.string ⟨#[97,98,99,100,101,102,103,104,105,106,107,108,109,110,111,112,113,114,115,116,117,118,119,120,121,122]⟩] w fun e w'=>e=.returned (.bool (L.isSmall (s.data.toList.headD 0)))∧Below w.heap.size w w'):=fun w=>(Ho.out w _ Hx.out).mono fun e w' ⟨h1,h2⟩=>⟨by rw [h1,Ht.out],h2⟩;clear Ho;by_cases h2:L.isSmall (s.data.toList.headD 0)=true
  ·rw [h2] at Ho1;go_enter Tryz.func61,Tryz.ntmps61
   go_wp2_with fail
   refine (in_any _ _ _ _).mono ?_;rintro e _ ⟨rfl,rfl⟩;rw [e1];go_wp2_with fail
   refine (Ho1.out _).mono ?_;rintro e w1 ⟨rfl,hl_w1⟩;have hz_w1:=hl_w1.size;go_wp2_with fail
   refine (Hk.out _).mono ?_;rintro e w2 ⟨rfl,hl_w2⟩;have hz_w2:=hl_w2.size;go_wp2_with fail
   go_ret;exact ⟨ret_b (by rw [← HR.out,L.isKey,E2.out,h2,Bool.true_and,Bool.true_and];simp),hl_w1.trans (hl_w2.mono (by omega))⟩
  ·have h2:L.isSmall (s.data.toList.headD 0)=false:=by simpa using h2
   rw [h2] at Ho1;go_enter Tryz.func61,Tryz.ntmps61
   go_wp2_with fail
   refine (in_any _ _ _ _).mono ?_;rintro e _ ⟨rfl,rfl⟩;rw [e1];go_wp2_with fail
   refine (Ho1.out _).mono ?_;rintro e w1 ⟨rfl,hl_w1⟩;have hz_w1:=hl_w1.size;go_wp2_with fail
   go_ret;exact ⟨ret_b (by rw [← HR.out,L.isKey,E2.out,h2,Bool.true_and,Bool.false_and]),hl_w1⟩
 ·have e1:decide ((1:Int)≤s.size∧(s.size:Int)≤40)=false:=by simp;omega
  go_enter Tryz.func61,Tryz.ntmps61
  go_wp2_with fail
  refine (in_any _ _ _ _).mono ?_;rintro e _ ⟨rfl,rfl⟩;rw [e1];go_wp2_with fail
  go_ret;refine ⟨ret_b ?_,Below.refl _ _⟩;rw [← HR.out];have e2:(decide (1≤s.size) && decide (s.size≤40))=false:=by simp;omega
  simp [L.isKey,e2]
end
section
open Go.RowKit
def firstErr:List Int→Int
 | []=>0
 | e::r=>if e≠0 then e else firstErr r
end
end Go.Proofs.YtmkkppknaikjjaaGreatDoor
