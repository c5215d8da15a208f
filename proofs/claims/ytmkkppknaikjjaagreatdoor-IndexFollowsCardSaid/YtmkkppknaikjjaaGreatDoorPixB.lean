/- Several texts in one: Kp, Stream, Slices, Rep, St, StMore, Mem. -/
import Derived.WalkKit
import Derived.Deep.Quiet
import Derived.Tactics2
import Derived.Lib.Hide
import Derived.Test.YtmkkppknaikjjaaGreatDoorRows
import Derived.ProofKit
import Derived.OpenShut
import Derived.Deep.QuietTactic
import Derived.BigQuiet
import Derived.Outline
import Derived.Below
import Derived.OwnWalk
import Derived.Handy
import Derived.Laws.OwnMore
/- Steps that come again and again, each as one theorem whose last argument is filled by its own tactic. No program is in sight. -/
namespace Go.Proofs.YtmkkppknaikjjaaGreatDoor
section
open Go Go.RowKit
structure Kp (p:Prop):Prop where
 out:p
end
section
open Go.RowKit
structure SK (b:Nat) (w w':World):Prop where
 os:w'.os=w.os
 tape:w'.tape=w.tape
 output:w'.output=w.output
 size:w.heap.size≤w'.heap.size
 block:∀ k,k < w.heap.size→k≠b→w'.heap[k]? =w.heap[k]?
theorem SK.refl (b:Nat)(w:World):SK b w w:=⟨rfl,rfl,rfl,Nat.le_refl _,fun _ _ _=>rfl⟩
theorem SK.trans {b:Nat}{u v w:World}(h:SK b u v)(k:SK b v w):SK b u w :=
 ⟨k.os.trans h.os,k.tape.trans h.tape,k.output.trans h.output,Nat.le_trans h.size k.size,fun i hi hb=>(k.block i (Nat.lt_of_lt_of_le hi h.size) hb).trans (h.block i hi hb)⟩
theorem SK.drewN {b:Nat}{u w:World}(n:Nat)(h:SK b u w):SK b u (w.drewN n):=⟨h.os,h.tape,h.output,h.size,h.block⟩
theorem SK.alloc {b:Nat}{u w:World}(h:SK b u w)(o:Obj):SK b u (w.alloc o) :=
 h.trans ⟨rfl,rfl,rfl,by simp,fun k hk _=>Below.heap_alloc _ _ _ hk⟩
theorem SK.setCell {b:Nat}{u w:World}(h:SK b u w)(o:Nat)(v:Value):SK b u (w.setCell ⟨b,o,none⟩ v) :=
 h.trans ⟨rfl,rfl,rfl,by simp [World.setCell],fun k _ hb=>Below.heap_setCell _ _ _ _ hb⟩
theorem SK.ofBelow {b:Nat}{w w':World}(h:Below w.heap.size w w'):SK b w w' :=
 ⟨h.os,h.tape,h.output,h.size,fun k hk _=>h.block k hk⟩
def Strm (b m:Nat)(w:World):Prop :=
 ∃ (v:Value) (a:Nat),w.heap[b]? =some (.cells #[v,.int .i64 a] 25 (0,0))∧a≤m ∧
  ((∃ a c,v=.slice a 0 c)∨∃ k off len cap,v=.slice (some ⟨k,off,none⟩) len cap∧len≤9223372036854775807∧k < b ∧
    ∀ i,i < len→∃ z:Int,w.cell? ⟨k,off + i,none⟩=some (.int .i64 z))
theorem Strm.lt {b m:Nat}{w:World}(h:Strm b m w):b < w.heap.size:=by
 obtain ⟨v,a,hb,_⟩:=h;rcases Nat.lt_or_ge b w.heap.size with h | h
 ·exact h
 ·rw [Array.getElem?_eq_none h] at hb;cases hb
theorem Strm.mono {b m n:Nat}{w:World}(h:Strm b m w)(k:m≤n):Strm b n w:=by
 obtain ⟨v,a,hb,h1,h2⟩:=h;exact ⟨v,a,hb,by omega,h2⟩
theorem Strm.step {b m:Nat}{w w':World}{v:Value}{n:Nat}(hlt:b < w.heap.size)(k:SK b w w')(hb':w'.heap[b]? =some (.cells #[v,.int .i64 n] 25 (0,0)))(hn:n≤m)
  (h3:(∃ a c,v=.slice a 0 c)∨∃ k off len cap,v=.slice (some ⟨k,off,none⟩) len cap∧len≤9223372036854775807∧k < b ∧
   ∀ i,i < len→∃ z:Int,w.cell? ⟨k,off + i,none⟩=some (.int .i64 z)):Strm b m w':=by
 refine ⟨v,n,hb',hn,?_⟩;rcases h3 with h3 | ⟨kk,off,len,cap,e1,e2,e3,e5⟩
 ·exact .inl h3
 ·refine .inr ⟨kk,off,len,cap,e1,e2,e3,fun i hi=>?_⟩;obtain ⟨z,hz⟩:=e5 i hi;exact ⟨z,by rw [World.cell?_of_block (w:=w) (a:=⟨kk,off + i,none⟩) (k.block kk (by omega) (by omega))];exact hz⟩
theorem Strm.keep {b m:Nat}{w w':World}(h:Strm b m w)(k:Below w.heap.size w w'):Strm b m w':=by
 have hlt:=h.lt;obtain ⟨v,a,hb,h1,h3⟩:=h;exact Strm.step hlt (SK.ofBelow k) (by rw [k.block b hlt];exact hb) h1 h3
theorem SK.setNew {b:Nat}{u w:World}(h:SK b u w){X:Nat}(hX:u.heap.size≤X)(o:Nat)(v:Value):SK b u (w.setCell ⟨X,o,none⟩ v) :=
 ⟨h.os,h.tape,h.output,by simp [World.setCell];exact h.size,fun k hk hb=>(Below.heap_setCell _ _ _ _ (by show k≠X;omega)).trans (h.block k hk hb)⟩
theorem Strm.set {b m:Nat}{w:World}(h:Strm b m w){X:Nat}(hX:b < X)(o:Nat)(u:Value):Strm b m (w.setCell ⟨X,o,none⟩ u):=by
 obtain ⟨v,a,hb,h1,h3⟩:=h;refine ⟨v,a,(Below.heap_setCell _ _ _ _ (by show b≠X;omega)).trans hb,h1,?_⟩;rcases h3 with h3 | ⟨kk,off,len,cap,e1,e2,e3,e5⟩
 ·exact .inl h3
 ·refine .inr ⟨kk,off,len,cap,e1,e2,e3,fun i hi=>?_⟩;obtain ⟨z,hz⟩:=e5 i hi;exact ⟨z,by rw [World.cell?_of_block (w:=w) (a:=⟨kk,off + i,none⟩) (Below.heap_setCell _ _ _ _ (by show kk≠X;omega))];exact hz⟩
structure G (b m:Nat) (w0 w:World):Prop where
 k:SK b w0 w
 s:Strm b m w
theorem Strm.alloc {b m:Nat}{w:World}(h:Strm b m w)(o:Obj):Strm b m (w.alloc o) :=
 h.keep ((Below.refl _ _).alloc (Nat.le_refl _) o)
theorem G.start {b m:Nat}{w:World}(h:Strm b m w):G b m w w:=⟨SK.refl _ _,h⟩
theorem G.alloc {b m:Nat}{w0 w:World}(h:G b m w0 w)(o:Obj):G b m w0 (w.alloc o):=⟨h.k.alloc o,h.s.alloc o⟩
theorem G.step {b m n:Nat}{w0 w w':World}(h:G b m w0 w)(hk:SK b w w')(hs:Strm b n w'):G b n w0 w':=⟨h.k.trans hk,hs⟩
theorem G.below {b m:Nat}{w0 w w':World}(h:G b m w0 w)(hk:Below w.heap.size w w'):G b m w0 w':=⟨h.k.trans (SK.ofBelow hk),h.s.keep hk⟩
theorem G.set {b m:Nat}{w0 w:World}(h:G b m w0 w){X:Nat}(hX:b < X)(hX2:w0.heap.size≤X)(o:Nat)(u:Value):G b m w0 (w.setCell ⟨X,o,none⟩ u):=⟨h.k.setNew hX2 o u,h.s.set hX o u⟩
theorem Strm.lower {b m:Nat}{w w':World}(h:Strm b m w)(k:∀ k,k≤b→w'.heap[k]? =w.heap[k]?):Strm b m w':=by
 obtain ⟨v,a,hb,h1,h3⟩:=h;refine ⟨v,a,(k b (Nat.le_refl _)).trans hb,h1,?_⟩;rcases h3 with h3 | ⟨kk,off,len,cap,e1,e2,e3,e5⟩
 ·exact .inl h3
 ·refine .inr ⟨kk,off,len,cap,e1,e2,e3,fun i hi=>?_⟩;obtain ⟨z,hz⟩:=e5 i hi;exact ⟨z,by rw [World.cell?_of_block (w:=w) (a:=⟨kk,off + i,none⟩) (k kk (by omega))];exact hz⟩
theorem G.belowB {b m:Nat}{w0 w w':World}(h:G b m w0 w)(k:Below w0.heap.size w w')(hb:b < w0.heap.size):G b m w0 w' :=
 ⟨⟨k.os.trans h.k.os,k.tape.trans h.k.tape,k.output.trans h.k.output,Nat.le_trans h.k.size k.size,fun i hi hn=>(k.block i hi).trans (h.k.block i hi hn)⟩,h.s.lower fun i hi=>k.block i (by omega)⟩
theorem G.size {b m:Nat}{w0 w:World}(h:G b m w0 w):w0.heap.size≤w.heap.size:=h.k.size
theorem G.mono {b m n:Nat}{w0 w:World}(h:G b m w0 w)(hm:m≤n):G b n w0 w:=⟨h.k,h.s.mono hm⟩
def IntsIn (v:Value)(w:World):Prop :=
 (∃ a c,v=.slice a 0 c)∨∃ k off len cap,v=.slice (some ⟨k,off,none⟩) len cap∧len≤9223372036854775807∧k < w.heap.size∧∀ i,i < len→∃ z:Int,w.cell? ⟨k,off + i,none⟩=some (.int .i64 z)
theorem Strm.start {v:Value}{w:World}(h:IntsIn v w):Strm w.heap.size 0 (w.alloc (.cells #[v,.int .i64 0] 25)):=by
 refine ⟨v,0,?_,Nat.le_refl _,?_⟩
 ·show (w.heap.push _)[w.heap.size]? =_;simp
 ·rcases h with h | ⟨k,off,len,cap,e1,e2,e3,e4⟩
  ·exact .inl h
  ·refine .inr ⟨k,off,len,cap,e1,e2,e3,fun i hi=>?_⟩;obtain ⟨z,hz⟩:=e4 i hi;exact ⟨z,by rw [World.cell?_alloc_past _ _ _ e3];exact hz⟩
theorem SK.below {b B:Nat}{w w':World}(h:SK b w w')(hb:B≤b)(hB:B≤w.heap.size):Below B w w' :=
 ⟨h.os,h.tape,h.output,h.size,fun k hk=>h.block k (by omega) (by omega)⟩
def GivesBelow (n:Int)(w:World)(e:Ending)(w':World):Prop:=∃ r:Int,0≤r∧r < n∧e=.returned (.int .i64 r)∧w=w'
theorem below_any (x n:Int)(w:World)(h:1≤n)(hn:n≤9223372036854775807) :
  Calls Tryz.prog 111 #[.int .i64 x,.int .i64 n] w (GivesBelow n w):=by
 have h1:=Int.tmod_lt_of_pos x (b:=n) (by omega);have h2:=Int.lt_tmod_of_pos x (b:=n) (by omega);go_enter Tryz.func111,Tryz.ntmps111
 go_wp2
 ·go_ret;have h3:x.tmod n < 0:=by assumption
  exact ⟨_,by omega,by omega,rfl,rfl⟩
 ·go_ret;have h3:0≤x.tmod n:=by assumption
  exact ⟨_,h3,h1,rfl,rfl⟩
def Draws (b m:Nat)(n:Int)(w:World)(e:Ending)(w':World):Prop:=∃ r:Int,0≤r∧r < n∧e=.returned (.int .i64 r)∧SK b w w'∧Strm b m w'
theorem strm_at {b:Nat}{w:World}{v:Value}{a:Int}{o:Nat×Nat}{T:Nat}(h:w.heap[b]? =some (.cells #[v,.int .i64 a] T o))(x:Value) :
  (w.setCell ⟨b,1,none⟩ x).heap[b]? =some (.cells #[v,x] T o):=by
 simp [World.setCell,Array.getElem?_modify,h]
theorem next_any (b m:Nat)(n:Int)(w:World)(hs:Strm b m w)(h:1≤n)(hn:n≤9223372036854775807)(hm:m≤1000000000000) :
  Calls Tryz.prog 48 #[.pointer (some ⟨b,0,none⟩),.int .i64 n] w (Draws b (m + 1) n w):=by
 have hblt:=hs.lt;obtain ⟨v,a,hb,ha,hl⟩:=hs;have c0:w.cell? ⟨b,0,none⟩=some v:=by simp [World.cell?,hb]
 have c1:w.cell? ⟨b,1,none⟩=some (.int .i64 a):=by simp [World.cell?,hb]
 have f1:w.frozen? ⟨b,1,none⟩=false:=by simp [World.frozen?,hb]
 have Hst:Hid (∀ q,Strm b (m + 1) ((w.setCell ⟨b,1,none⟩ (.int .i64 ((a:Int) + 1))).drewN q)):=fun q =>
  Strm.step (n:=a + 1) hblt (SK.drewN q ((SK.refl b w).setCell _ _)) (strm_at hb _) (by omega) hl
 clear hb;rcases hl with ⟨a0,c0',rfl⟩ | ⟨k,off,len,cap,rfl,hlen,hkb,hcs⟩
 ·go_enter Tryz.func48,Tryz.ntmps48
  go_wp2_with fail
  refine (below_any _ _ _ h hn).mono ?_;rintro e w' ⟨r,hr0,hr1,rfl,rfl⟩;go_wp2
  go_ret;exact ⟨r,hr0,hr1,rfl,(SK.refl _ _).setCell _ _,Hst.out 0⟩
 ·have hcs':=Lib.hid hcs;clear hcs;by_cases hl0:len=0
  ·subst hl0;go_enter Tryz.func48,Tryz.ntmps48
   go_wp2_with fail
   go_wp2_with fail
   refine (below_any _ _ _ h hn).mono ?_;rintro e w' ⟨r,hr0,hr1,rfl,rfl⟩;go_wp2
   go_ret;exact ⟨r,hr0,hr1,rfl,(SK.refl _ _).setCell _ _,Hst.out 0⟩
  ·have hne:((len:Int)==0)=false:=by simpa using hl0
   have hlp:1≤(len:Int):=by omega
   have hlt:a % len < len:=Nat.mod_lt _ (by omega);obtain ⟨z,hz⟩:=hcs'.out (a % len) hlt;go_enter Tryz.func48,Tryz.ntmps48
   go_wp2_with fail
   go_quiet (fail)
   go_wp2_with fail
   go_quiet (fail)
   go_wp2_with fail
   refine (below_any _ _ _ (by omega) (by omega)).mono ?_;rintro e w' ⟨r,hr0,hr1,rfl,rfl⟩;go_wp2_with fail
   refine (below_any _ _ _ h hn).mono ?_;rintro e w' ⟨r',hr0',hr1',rfl,rfl⟩;go_wp2
   go_ret;exact ⟨r',hr0',hr1',rfl,SK.drewN _ ((SK.refl _ _).setCell _ _),Hst.out _⟩
theorem str_ne {t:ByteArray}(h:1≤t.size):¬ t.toList=[]∧t.toList.isEmpty=false:=by
 have:¬ t.toList=[]:=by
  rw [toList_nil_iff_emptyBytes];rintro rfl;simp at h
 exact ⟨this,by simpa using this⟩
theorem str_nil {t:ByteArray}(h:t.size=0):t.toList=[]∧t.toList.isEmpty=true:=by
 have:t.toList=[]:=by
  rw [toList_nil_iff_emptyBytes];exact ByteArray.size_eq_zero_iff.1 h
 exact ⟨this,by simpa using this⟩
def DrawsIn (b m:Nat)(lo hi:Int)(w:World)(e:Ending)(w':World):Prop:=∃ r:Int,lo≤r∧r≤hi∧e=.returned (.int .i64 r)∧SK b w w'∧Strm b m w'
theorem range_any (b m:Nat)(lo hi:Int)(w:World)(hs:Strm b m w)(h:lo≤hi)(hlo:-1000000000000000≤lo)(hhi:hi≤1000000000000000)(hm:m≤1000000000000) :
  Calls Tryz.prog 6 #[.pointer (some ⟨b,0,none⟩),.int .i64 lo,.int .i64 hi] w (DrawsIn b (m + 1) lo hi w):=by
 go_enter Tryz.func6,Tryz.ntmps6
 go_wp2_with fail
 refine (next_any b m _ _ hs (by omega) (by omega) hm).mono ?_;rintro e w' ⟨r,hr0,hr1,rfl,hk,hs'⟩;clear hs;go_wp2
 go_ret;exact ⟨lo + r,by omega,by omega,rfl,hk,hs'⟩
def DrawsBool (b m:Nat)(w:World)(e:Ending)(w':World):Prop:=∃ r:Bool,e=.returned (.bool r)∧SK b w w'∧Strm b m w'
theorem flip_any (b m:Nat)(n:Int)(w:World)(hs:Strm b m w)(h:1≤n)(hn:n≤1000000000000000)(hm:m≤1000000000000) :
  Calls Tryz.prog 23 #[.pointer (some ⟨b,0,none⟩),.int .i64 n] w (DrawsBool b (m + 1) w):=by
 go_enter Tryz.func23,Tryz.ntmps23
 go_wp2_with fail
 refine (next_any b m _ _ hs (by omega) (by omega) hm).mono ?_;rintro e w' ⟨r,hr0,hr1,rfl,hk,hs'⟩;clear hs;go_wp2
 go_ret;exact ⟨_,rfl,hk,hs'⟩
def DrawsOf (b m:Nat)(zs:List Int)(w:World)(e:Ending)(w':World):Prop:=∃ r:Int,r∈zs∧e=.returned (.int .i64 r)∧SK b w w'∧Strm b m w'
theorem pick_any (b m k off cap:Nat)(zs:List Int)(w:World)(hs:Strm b m w)(h:1≤zs.length)(hn:zs.length≤1000000000)(hm:m≤1000000000000)(hk:k < w.heap.size)(hkb:k≠b)
  (hc:∀ i,i < zs.length→w.cell? ⟨k,off + i,none⟩=some (.int .i64 (zs[i]?.getD 0))) :
  Calls Tryz.prog 8 #[.pointer (some ⟨b,0,none⟩),.slice (some ⟨k,off,none⟩) zs.length cap] w (DrawsOf b (m + 1) zs w):=by
 have Hc:=Lib.hid hc;clear hc;go_enter Tryz.func8,Tryz.ntmps8
 go_wp2_with fail
 refine (next_any b m _ _ hs (by omega) (by omega) hm).mono ?_;rintro e w' ⟨r,hr0,hr1,rfl,hk',hs'⟩;clear hs;obtain ⟨i,rfl⟩:=Int.eq_ofNat_of_zero_le hr0;have hi:i < zs.length:=by omega
 have hci:w'.cell? ⟨k,off + i,none⟩=some (.int .i64 (zs[i]?.getD 0)):=by
  rw [World.cell?_of_block (w:=w) (a:=⟨k,off + i,none⟩) (hk'.block k hk hkb)];exact Hc.out i hi
 go_wp2
 go_ret;exact ⟨zs[i],List.getElem_mem hi,rfl,hk',hs'⟩
theorem pick_lit (b m n:Nat)(zs:List Int){w0:World}{cs:Array Value}(hs:Strm b m w0)(hn:n=zs.length)(hcs:cs=(zs.map (Value.int .i64)).toArray)(h1:1≤n)(h2:n≤1000)(hm:m≤1000000000000) :
  Calls Tryz.prog 8 #[.pointer (some ⟨b,0,none⟩),.slice (some ⟨w0.heap.size,0,none⟩) n n] (w0.alloc (.cells cs 3)) (DrawsOf b (m + 1) zs w0):=by
 subst hn hcs;refine (pick_any b m w0.heap.size 0 zs.length zs (w0.alloc _) (hs.alloc _) h1 (by omega) hm (by simp) (by have:=hs.lt;omega) (fun i hi=>?_)).mono ?_
 ·rw [World.cell?_alloc_at _ _ _ _ rfl];simp [hi]
 ·rintro e w' ⟨r,hr,he,hk,hst⟩;exact ⟨r,hr,he,((SK.refl b w0).alloc _).trans hk,hst⟩
theorem pick_at (b m n p:Nat)(zs:List Int){w0:World}{cs:Array Value}(hs:Strm b m w0)(hp:p=w0.heap.size)(hn:n=zs.length)(hcs:cs=(zs.map (Value.int .i64)).toArray)(h1:1≤n)(h2:n≤1000)(hm:m≤1000000000000) :
  Calls Tryz.prog 8 #[.pointer (some ⟨b,0,none⟩),.slice (some ⟨p,0,none⟩) n n] (w0.alloc (.cells cs 3)) (DrawsOf b (m + 1) zs w0):=by
 subst hp;exact pick_lit b m n zs hs hn hcs h1 h2 hm
def DrawsOne (b m:Nat)(zs:List ByteArray)(w:World)(e:Ending)(w':World):Prop:=∃ r:ByteArray,r∈zs∧e=.returned (.string r)∧SK b w w'∧Strm b m w'
theorem one_at (b m n p:Nat)(zs:List ByteArray){w0:World}{cs:Array Value}(hs:Strm b m w0)(hp:p=w0.heap.size)(hn:n=zs.length)(hcs:cs=(zs.map Value.string).toArray)(h1:1≤n)(h2:n≤1000)(hm:m≤1000000000000) :
  Calls Tryz.prog 49 #[.pointer (some ⟨b,0,none⟩),.slice (some ⟨p,0,none⟩) n n] (w0.alloc (.cells cs 9)) (DrawsOne b (m + 1) zs w0):=by
 subst hp hn hcs;have hs':=hs.alloc (.cells (zs.map Value.string).toArray 9);have hlt:=hs.lt;have Hc:Hid (∀ i z,zs[i]? =some z→(w0.alloc (.cells (zs.map Value.string).toArray 9)).cell? ⟨w0.heap.size,i,none⟩=some (.string z)):=fun i z h=>by
  rw [World.cell?_alloc_at _ _ _ _ rfl];simp [h]
 have hsz:w0.heap.size < (w0.alloc (.cells (zs.map Value.string).toArray 9)).heap.size:=by simp
 have Hk:Hid (SK b w0 (w0.alloc (.cells (zs.map Value.string).toArray 9))):=(SK.refl b w0).alloc _;generalize w0.alloc (.cells (zs.map Value.string).toArray 9)=w at *;go_enter Tryz.func49,Tryz.ntmps49
 go_wp2_with fail
 refine (next_any b m _ _ hs' (by omega) (by omega) hm).mono ?_;rintro e w' ⟨r,hr0,hr1,rfl,hk',hs2⟩;obtain ⟨i,rfl⟩:=Int.eq_ofNat_of_zero_le hr0;have hi:i < zs.length:=by omega
 have hci:w'.cell? ⟨w0.heap.size,i,none⟩=some (.string (zs[i]'hi)):=by
  rw [World.cell?_of_block (w:=w) (a:=⟨w0.heap.size,i,none⟩) (hk'.block _ hsz (by show w0.heap.size≠b;omega))];exact Hc.out i _ (List.getElem?_eq_getElem hi)
 go_wp2_with fail
 go_ret;exact ⟨zs[i],List.getElem_mem hi,rfl,Hk.out.trans hk',hs2⟩
def DrawsStr (b m n:Nat)(w:World)(e:Ending)(w':World):Prop:=∃ s:ByteArray,s.size≤n∧e=.returned (.string s)∧SK b w w'∧Strm b m w'
def strOf:Value→ByteArray | .string s=>s | _=>⟨#[]⟩
def strsLe (M:Nat)(cs:Array Value):Prop:=∀ v∈cs.toList,v=.string (strOf v)∧(strOf v).size≤M
def intsIn (lo hi:Int)(cs:Array Value):Prop:=∀ v∈cs.toList,v=.int .i64 (intOf v)∧lo≤intOf v∧intOf v≤hi
def strsLeB (M:Nat)(cs:Array Value):Bool:=cs.toList.all fun | .string s=>Nat.ble s.size M | _=>false
def intsInB (lo hi:Int)(cs:Array Value):Bool:=cs.toList.all fun | .int .i64 n=>decide (lo≤n) && decide (n≤hi) | _=>false
theorem strsLe_of {M:Nat}{cs:Array Value}(h:strsLeB M cs=true):strsLe M cs:=fun v hv=>by
 have:=List.all_eq_true.1 h v hv
 split at this
 ·exact ⟨rfl,Nat.le_of_ble_eq_true this⟩
 ·cases this
theorem intsIn_of {lo hi:Int}{cs:Array Value}(h:intsInB lo hi cs=true):intsIn lo hi cs:=fun v hv=>by
 have:=List.all_eq_true.1 h v hv
 split at this
 ·simp only [Bool.and_eq_true,decide_eq_true_eq] at this;exact ⟨rfl,this⟩
 ·cases this
theorem strsLe_nil {M:Nat}:strsLe M ⟨[]⟩:=fun v hv=>by cases hv
theorem strsLe_cons {M:Nat}{s:ByteArray}{l:List Value}(h:s.size≤M)(t:strsLe M ⟨l⟩):strsLe M ⟨.string s::l⟩:=fun v hv=>by
 rcases List.mem_cons.1 hv with rfl | hv
 ·exact ⟨rfl,h⟩
 ·exact t v hv
theorem intsIn_nil {lo hi:Int}:intsIn lo hi ⟨[]⟩:=fun v hv=>by cases hv
theorem intsIn_cons {lo hi n:Int}{l:List Value}(h:lo≤n∧n≤hi)(t:intsIn lo hi ⟨l⟩):intsIn lo hi ⟨.int .i64 n::l⟩:=fun v hv=>by
 rcases List.mem_cons.1 hv with rfl | hv
 ·exact ⟨rfl,h⟩
 ·exact t v hv
theorem map_back {α:Type}(f:α→Value)(g:Value→α)(l:List Value)(h:∀ v∈l,v=f (g v)):l=(l.map g).map f:=by
 rw [List.map_map];exact (List.map_id' l).symm.trans (List.map_congr_left fun v hv=>h v hv)
theorem one_le (b m n p M:Nat){w0:World}{cs:Array Value}(hs:Strm b m w0)(hp:p=w0.heap.size)(hn:n=cs.size)(hcs:strsLe M cs)(h1:1≤n)(h2:n≤1000)(hm:m≤1000000000000) :
  Calls Tryz.prog 49 #[.pointer (some ⟨b,0,none⟩),.slice (some ⟨p,0,none⟩) n n] (w0.alloc (.cells cs 9)) (DrawsStr b (m + 1) M w0) :=
 (one_at b m n p (cs.toList.map strOf) hs hp (by simpa using hn) (by rw [← map_back _ _ _ (fun v hv=>(hcs v hv).1)]) h1 h2 hm).mono fun e w' ⟨r,hr,h⟩=>⟨r,by obtain ⟨v,hv,rfl⟩:=List.mem_map.1 hr;exact (hcs v hv).2,h⟩
theorem pick_le (b m n p:Nat)(lo hi:Int){w0:World}{cs:Array Value}(hs:Strm b m w0)(hp:p=w0.heap.size)(hn:n=cs.size)(hcs:intsIn lo hi cs)(h1:1≤n)(h2:n≤1000)(hm:m≤1000000000000) :
  Calls Tryz.prog 8 #[.pointer (some ⟨b,0,none⟩),.slice (some ⟨p,0,none⟩) n n] (w0.alloc (.cells cs 3)) (DrawsIn b (m + 1) lo hi w0) :=
 (pick_at b m n p (cs.toList.map intOf) hs hp (by simpa using hn) (by rw [← map_back _ _ _ (fun v hv=>(hcs v hv).1)]) h1 h2 hm).mono fun e w' ⟨r,hr,h⟩=>by
  obtain ⟨v,hv,rfl⟩:=List.mem_map.1 hr;exact ⟨_,(hcs v hv).2.1,(hcs v hv).2.2,h⟩
def LV (w:World)(X:Nat)(cs:Array Value)(T:TypeId):Prop:=w.heap[X]? =some (.cells cs T (0,0))
theorem LV.lt {w:World}{X:Nat}{cs:Array Value}{T:TypeId}(h:LV w X cs T):X < w.heap.size:=by
 rcases Nat.lt_or_ge X w.heap.size with h' | h'
 ·exact h'
 ·unfold LV at h;rw [Array.getElem?_eq_none h'] at h;cases h
theorem LV.new (w:World)(X:Nat)(cs:Array Value)(T:TypeId)(hX:X=w.heap.size):LV (w.alloc (.cells cs T)) X cs T:=by
 subst hX;show (w.heap.push _)[w.heap.size]? =_;simp
theorem LV.keep {w w':World}{X b:Nat}{cs:Array Value}{T:TypeId}(h:LV w X cs T)(k:SK b w w')(hb:X≠b):LV w' X cs T:=(k.block X h.lt hb).trans h
theorem LV.alloc {w:World}{X:Nat}{cs:Array Value}{T:TypeId}(h:LV w X cs T)(o:Obj):LV (w.alloc o) X cs T:=(Below.heap_alloc _ _ _ h.lt).trans h
theorem LV.set {w:World}{X:Nat}{cs:Array Value}{T:TypeId}(h:LV w X cs T)(j:Nat)(u:Value)(cs':Array Value)(hc:cs'=cs.setIfInBounds j u):LV (w.setCell ⟨X,j,none⟩ u) X cs' T:=by
 subst hc;unfold LV at *;simp [World.setCell,Array.getElem?_modify,h]
theorem LV.other {w:World}{X Y:Nat}{cs:Array Value}{T:TypeId}(h:LV w X cs T)(hY:X≠Y)(j:Nat)(u:Value):LV (w.setCell ⟨Y,j,none⟩ u) X cs T:=(Below.heap_setCell _ _ _ _ hY).trans h
theorem LV.cell {w:World}{X:Nat}{cs:Array Value}{T:TypeId}(h:LV w X cs T)(j:Nat)(v:Value)(hv:cs[j]? =some v):w.cell? ⟨X,j,none⟩=some v:=by
 unfold LV at h;simp [World.cell?,h,hv]
theorem LV.free {w:World}{X:Nat}{cs:Array Value}{T:TypeId}(h:LV w X cs T)(j:Nat):w.frozen? ⟨X,j,none⟩=false:=by
 unfold LV at h;simp [World.frozen?,h]
theorem encode_le (r:Int):(Utf8.encode r).size≤4:=by
 unfold Utf8.encode;simp only [];repeat' split
 all_goals simp [ByteArray.size]
set_option maxRecDepth 100000 in
theorem changed_any (b m:Nat)(t u:ByteArray)(w:World)(hs:Strm b m w)(h:t.size≤1000000000)(hn:u.size≤1000000000)(hm:m≤100000000000) :
  Calls Tryz.prog 143 #[.pointer (some ⟨b,0,none⟩),.string t,.string u] w (DrawsStr b (m + 3) (t.size + u.size + 4) w):=by
 by_cases htz:t.size=0
 ·have ht:=(str_nil htz).1;have ht':=(str_nil htz).2;have Htz:=Lib.hid htz;clear htz;go_enter Tryz.func143,Tryz.ntmps143
  go_wp2_with fail
  go_ret;exact ⟨u,by omega,rfl,SK.refl _ _,hs.mono (by omega)⟩
 have ht:=(str_ne (by omega:1≤t.size)).1;have ht':=(str_ne (by omega:1≤t.size)).2;by_cases huz:u.size=0
 ·have hu:=(str_nil huz).1;have hu':=(str_nil huz).2;have Htz:=Lib.hid htz;have Huz:=Lib.hid huz;clear htz huz;go_enter Tryz.func143,Tryz.ntmps143
  go_wp2_with fail
  go_ret;exact ⟨u,by omega,rfl,SK.refl _ _,hs.mono (by omega)⟩
 have hu:=(str_ne (by omega:1≤u.size)).1;have hu':=(str_ne (by omega:1≤u.size)).2;have htz1:1≤t.size:=by omega
 have huz1:1≤u.size:=by omega
 clear htz huz;go_enter Tryz.func143,Tryz.ntmps143
 go_wp2_with fail
 refine (next_any b m _ _ hs (by omega) (by omega) (by omega)).mono ?_;rintro e w1 ⟨r1,hr1,hr1',rfl,hk1,hs1⟩;obtain ⟨i,rfl⟩:=Int.eq_ofNat_of_zero_le hr1;clear hs;go_wp2_with fail
 refine (next_any b (m + 1) _ _ hs1 (by omega) (by omega) (by omega)).mono ?_;rintro e w2 ⟨r2,hr2,hr2',rfl,hk2,hs2⟩;obtain ⟨j,rfl⟩:=Int.eq_ofNat_of_zero_le hr2;clear hs1;go_wp2_with fail
 refine (next_any b (m + 2) _ _ hs2 (by omega) (by omega) (by omega)).mono ?_;rintro e w3 ⟨r3,hr3,hr3',rfl,hk3,hs3⟩;clear hs2;have hit:i≤t.size:=by omega
 have hit1:i < t.size:=by omega
 have hit2:i + 1≤t.size:=by omega
 go_wp2_with fail
 all_goals
  have hc:=(u[j]'(by omega)).toNat_lt;have hq:=encode_le ↑(u[j]'(by omega)).toNat;refine wp_region_quiet_lit (by kernel_rfl) (by kernel_rfl) ?_;repeat (refine wpQuiet_step (fun K hK=>?_);go_simp;(try go_bits);(try simp (disch:=omega) only [if_pos]);(try simp (disch:=omega) only [if_neg]);(try go_simp);(refine hK _ ?_;clear hK K))
  refine wpQuiet_nil ?_;intro _ hw';obtain ⟨nq,hw''⟩:=hw';subst hw'';go_wp2
  go_ret;refine ⟨_,?_,rfl,SK.drewN _ (hk1.trans (hk2.trans hk3)),hs3.keep ⟨rfl,rfl,rfl,Nat.le_refl _,fun _ _=>rfl⟩⟩;simp only [ByteArray.size_append,ByteArray.size_extract];omega
end
section
open Go.RowKit
structure STy (T E:TypeId) (size bytes:Nat) (z:Value):Prop where
 under:Tryz.prog.underlying T=some (.slice E)
 info:(Tryz.prog.info? E).map (fun i=>(i.zero,i.size,i.bytes))=some (some z,size,bytes)
 zsize:z.cells.size=size
 pos:0 < size
def Rd (w:World)(v:Value)(n size:Nat)(xs:List Value):Prop :=
 xs.length=n * size∧((∃ a c,v=.slice a 0 c∧n=0)∨∃ blk off cap,v=.slice (some ⟨blk,off,none⟩) n cap∧blk < w.heap.size∧∀ i x,xs[i]? =some x→w.cell? ⟨blk,off + i,none⟩=some x)
theorem add_at (blk off i:Nat):(⟨blk,off,none⟩:Addr).add i=⟨blk,off + i,none⟩:=by unfold Addr.add;split <;> simp_all
theorem Rd.ofOwn {w:World}{B E size:Nat}{v:Value}{n:Nat}{xs:List Value}(h:w.ownsRow B E size v n xs):Rd w v n size xs:=by
 refine ⟨h.1,?_⟩;rcases h.2 with ⟨rfl,h0⟩ | ⟨g,cap,cur,rfl,hb,hg,hn,hc,hs,ht⟩
 ·exact .inl ⟨none,0,rfl,h0⟩
 ·refine .inr ⟨g,0,cap,rfl,(h.lt g rfl).2,fun i x hx=>?_⟩;have:=h.cells (g:=g) rfl i x hx
  rwa [add_at] at this
theorem Rd.keep {w w':World}{v:Value}{n size:Nat}{xs:List Value}(h:Rd w v n size xs)(hk:Below w.heap.size w w'):Rd w' v n size xs:=by
 refine ⟨h.1,?_⟩;rcases h.2 with h0 | ⟨blk,off,cap,rfl,hb,hc⟩
 ·exact .inl h0
 ·exact .inr ⟨blk,off,cap,rfl,Nat.lt_of_lt_of_le hb hk.size,fun i x hx=>by rw [hk.cell (p:=⟨blk,off + i,none⟩) hb];exact hc i x hx⟩
theorem own_keep {w w':World}{B E size:Nat}{v:Value}{n:Nat}{xs:List Value}(h:w.ownsRow B E size v n xs)(hk:Below w.heap.size w w'):w'.ownsRow B E size v n xs :=
 World.ownsRow.kept (row:=none) h ⟨hk.os,hk.tape,hk.output,hk.size,fun k hk' _=>hk.block k hk'⟩ (by cases hv:v.ownBlock <;> simp)
section
variable {ops:Array Oper} {rest:List Oper} {o:Oper} {a:Act} {Q:Exit→Act→World→Prop}
theorem app_lit {w0:World}{cs:Array Value}{T E size bytes:Nat}{z:Value}(ty:STy T E size bytes z)(hgd:o.guard=none)(s x:Operand)(ho:o.op=.call { callee:=.builtin .append,args:=#[s,x],argTypes:=#[T,T] })
  (B:Nat) (v:Value) (n:Nat) (xs:List Value) (m c:Nat) (hs:a.eval s=v) (hown:w0.ownsRow B E size v n xs) (hx:a.eval x=.slice (some ⟨w0.heap.size,0,none⟩) m c) (hcs:cs.size=m * size) (h1:∀ u∈cs.toList,u.oneCell'=true)
  (hB:B≤w0.heap.size) (hlen:n + m≤1000000000) (hby:bytes≤1000)
  (h:∀ v' w',w'.ownsRow B E size v' (n + m) (xs++cs.toList)→w0.grownBy w' v.ownBlock→Below B w0 w'→(v'=.slice none 0 0 ↔ v=.slice none 0 0∧m=0)→wpList Tryz.prog ops Q rest (a.put o.dst v') w'):wpList Tryz.prog ops Q (o::rest) a (w0.alloc (.cells cs E)):=by
 obtain ⟨i0,hi,hz0,hz1,hz2⟩:=info_parts ty.info;refine wpList_append_own _ hgd s x T ho B E i0 z size bytes ty.under hi hz0 hz1 hz2 ty.zsize ty.pos v n xs hs (hown.alloc _) ⟨w0.heap.size,0,none⟩ m c cs.toList hx (by simpa using hcs) ?_ h1 ?_ ?_ ?_ ?_
 ·intro j u hj;rw [add_at,World.cell?_alloc_at _ _ _ _ rfl];simpa using hj
 ·unfold maxLen;omega
 ·have:=Nat.mul_le_mul hlen hby;omega
 ·simp;omega
 ·intro v' w' h1 h2 h3;have hg:w0.grownBy w' v.ownBlock:=⟨h2.os,h2.tape,h2.output,by have:=h2.size;simp at this;omega,fun k hk hn=>by rw [h2.block k (by simp;omega) hn];exact Below.heap_alloc _ _ _ hk⟩;exact h v' w' h1 hg ((Below.refl B w0).grown hg hB (fun k hk=>(hown.lt k hk).1)) h3
theorem make_n {w0:World}{T E size bytes:Nat}{z:Value}(ty:STy T E size bytes z)(hgd:o.guard=none)(l c:Operand)(ho:o.op=.makeSlice T l c)
  (B:Nat) (n:Nat) (L C:Int) (hl:a.eval l=.int .i64 L) (hc:a.eval c=.int .i64 C) (hL:L=(n:Int)) (hC:C=(n:Int)) (hB:B≤w0.heap.size) (hlen:n≤1000000000) (hby:bytes≤1000)
  (h:∀ w',w'.ownsRow B E size (.slice (some ⟨w0.heap.size,0,none⟩) n n) n (madeCells z.cells (n * size)).toList→w0.grownBy w' none→Below w0.heap.size w0 w'→wpList Tryz.prog ops Q rest (a.put o.dst (.slice (some ⟨w0.heap.size,0,none⟩) n n)) w'):wpList Tryz.prog ops Q (o::rest) a w0:=by
 obtain ⟨i0,hi,hz0,hz1,hz2⟩:=info_parts ty.info;refine wpList_make_full w0 hgd l c T ho B E i0 z size ty.under hi hz0 hz1 .i64 .i64 L C n hl hc hL hC ?_ ?_ hB ?_
 ·rw [hz2];have:=Nat.mul_le_mul hby hlen;omega
 ·unfold maxLen;omega
 ·intro w' h1 h2;exact h w' h1 h2 ((Below.refl _ w0).grown h2 (Nat.le_refl _) (fun k hk=>by cases hk))
end
end
section
open Go.RowKit
structure SKN (N:Nat→Prop) (w w':World):Prop where
 size:w.heap.size≤w'.heap.size
 block:∀ k,k < w.heap.size→¬ N k→w'.heap[k]? =w.heap[k]?
theorem SKN.mono {N M:Nat→Prop}{w w':World}(h:SKN N w w')(hm:∀ k,N k→M k):SKN M w w':=⟨h.size,fun k hk hn=>h.block k hk (fun e=>hn (hm k e))⟩
theorem SKN.ofBelow {N:Nat→Prop}{w w':World}(h:Below w.heap.size w w'):SKN N w w':=⟨h.size,fun k hk _=>h.block k hk⟩
def Off (b:Nat)(k:Nat):Prop:=k=b
theorem SK.n {b:Nat}{w w':World}(h:SK b w w'):SKN (Off b) w w':=⟨h.size,fun k hk hn=>h.block k hk hn⟩
structure Rep (α:Type) where
 size:Nat
 rel:(Nat→Prop)→World→α→List Value→Prop
 len:∀ {N:Nat→Prop} {w:World} {x:α} {l:List Value},rel N w x l→l.length=size
 keep:∀ {N:Nat→Prop} {w w':World} {x:α} {l:List Value},SKN N w w'→rel N w x l→rel N w' x l
 mono:∀ {N M:Nat→Prop} {w:World} {x:α} {l:List Value},(∀ k,k < w.heap.size→M k→N k)→rel N w x l→rel M w x l
def Rep.flat {α:Type}(n:Nat)(f:α→List Value)(h:∀ x,(f x).length=n):Rep α :=
 ⟨n,fun _ _ x l=>l=f x,fun e=>by rw [e];exact h _,fun _ h=>h,fun _ h=>h⟩
def Sl {α:Type}(r:Rep α)(N:Nat→Prop)(w:World)(A:Option Addr)(xs:List α):Prop :=
 ∀ (i:Nat) (x:α),xs[i]? =some x→∃ (blk off:Nat) (l:List Value),A=some ⟨blk,off,none⟩∧blk < w.heap.size∧¬ N blk∧r.rel N w x l∧∀ (j:Nat) (u:Value),l[j]? =some u→w.cell? ⟨blk,off + i * r.size + j,none⟩=some u
section
variable {α:Type} {r:Rep α} {N M:Nat→Prop} {w w':World} {A:Option Addr} {xs:List α}
theorem Sl.nil:Sl r N w A []:=fun i x h=>by simp at h
theorem Sl.keep (h:Sl r N w A xs)(k:SKN N w w'):Sl r N w' A xs:=fun i x hx=>by
 obtain ⟨blk,off,l,e,h1,h2,h3,h4⟩:=h i x hx;exact ⟨blk,off,l,e,Nat.lt_of_lt_of_le h1 k.size,h2,r.keep k h3,fun j u hu=>by
  rw [World.cell?_of_block (w:=w) (a:=⟨blk,off + i * r.size + j,none⟩) (k.block blk h1 h2)];exact h4 j u hu⟩
theorem Sl.mono (h:Sl r N w A xs)(k:∀ k,k < w.heap.size→M k→N k):Sl r M w A xs:=fun i x hx=>by
 obtain ⟨blk,off,l,e,h1,h2,h3,h4⟩:=h i x hx;exact ⟨blk,off,l,e,h1,fun hm=>h2 (k _ h1 hm),r.mono k h3,h4⟩
theorem Sl.keepB (h:Sl r N w A xs)(k:Below w.heap.size w w'):Sl r N w' A xs:=h.keep (SKN.ofBelow k)
end
def Rep.list {α:Type}(r:Rep α):Rep (List α) :=
 ⟨1,fun N w xs l=>∃ A c,l=[.slice A xs.length c]∧Sl r N w A xs,fun ⟨_,_,e,_⟩=>by rw [e];rfl,fun k ⟨A,c,e,h⟩=>⟨A,c,e,h.keep k⟩,fun k ⟨A,c,e,h⟩=>⟨A,c,e,h.mono k⟩⟩
def Rep.app {α β:Type}(r:Rep α)(s:Rep β):Rep (α×β) :=
 ⟨r.size + s.size,fun N w x l=>∃ l1 l2,l=l1++l2∧r.rel N w x.1 l1∧s.rel N w x.2 l2,fun ⟨_,_,e,h1,h2⟩=>by rw [e,List.length_append,r.len h1,s.len h2],fun k ⟨l1,l2,e,h1,h2⟩=>⟨l1,l2,e,r.keep k h1,s.keep k h2⟩,fun k ⟨l1,l2,e,h1,h2⟩=>⟨l1,l2,e,r.mono k h1,s.mono k h2⟩⟩
def Rep.via {α β:Type}(r:Rep α)(f:β→α):Rep β:=⟨r.size,fun N w x l=>r.rel N w (f x) l,fun h=>r.len h,fun k h=>r.keep k h,fun k h=>r.mono k h⟩
def rInt:Rep Int:=.flat 1 (fun n=>[.int .i64 n]) (fun _=>rfl)
def rStr:Rep ByteArray:=.flat 1 (fun s=>[.string s]) (fun _=>rfl)
theorem flatten_at {ls:List (List Value)}{n:Nat}(h:∀ l∈ls,l.length=n)(i j:Nat)(l:List Value)(u:Value)(hl:ls[i]? =some l)(hu:l[j]? =some u):ls.flatten[i * n + j]? =some u:=by
 induction ls generalizing i with
 | nil=>simp at hl
 | cons a t ih =>
  have ha:=h a (by simp);cases i with
  | zero =>
   simp at hl;subst hl;have:j < a.length:=by
    rcases Nat.lt_or_ge j a.length with h | h
    ·exact h
    ·rw [List.getElem?_eq_none h] at hu;cases hu
   rw [List.flatten_cons,Nat.zero_mul,Nat.zero_add,List.getElem?_append_left this];exact hu
  | succ i =>
   rw [List.flatten_cons,List.getElem?_append_right (by rw [ha,Nat.succ_mul];omega),ha,show (i + 1) * n + j - n=i * n + j by rw [Nat.succ_mul];omega];exact ih (fun l hl'=>h l (by simp [hl'])) i (by simpa using hl)
def NOr (N:Nat→Prop)(v:Value)(k:Nat):Prop:=N k∨v.ownBlock=some k
def Own {α:Type}(r:Rep α)(N:Nat→Prop)(B E:Nat)(w:World)(v:Value)(xs:List α):Prop :=
 ∃ ls:List (List Value),ls.length=xs.length∧(∀ (i:Nat) (x:α) (l:List Value),xs[i]? =some x→ls[i]? =some l→r.rel (NOr N v) w x l)∧w.ownsRow B E r.size v xs.length ls.flatten
section
variable {α:Type} {r:Rep α} {N:Nat→Prop} {B E:Nat} {w w':World} {v:Value} {xs:List α}
theorem Own.nil (r:Rep α)(N:Nat→Prop)(B E:Nat)(w:World):Own r N B E w (.slice none 0 0) []:=⟨[],rfl,fun _ _ _ h=>by simp at h,World.ownsRow_nil _ _ _ _⟩
theorem lt_of_get {α:Type}{xs:List α}{i:Nat}{x:α}(h:xs[i]? =some x):i < xs.length:=by
 rcases Nat.lt_or_ge i xs.length with h' | h'
 ·exact h'
 ·rw [List.getElem?_eq_none h'] at h;cases h
theorem Own.toSl (h:Own r N B E w v xs)(hb:∀ k,B≤k→¬ N k):∃ A c,v=.slice A xs.length c∧Sl r N w A xs:=by
 obtain ⟨ls,hl,hr,ho⟩:=h;have hlen:∀ l∈ls,l.length=r.size:=fun l hm=>by
  obtain ⟨i,hi,e⟩:=List.getElem_of_mem hm;exact r.len (hr i (xs[i]'(by omega)) l (by simp) (by rw [List.getElem?_eq_getElem hi,e]))
 rcases ho.2 with ⟨rfl,h0⟩ | ⟨g,cap,cur,rfl,hB,hg,_,_,_,_⟩
 ·refine ⟨none,0,by rw [h0],?_⟩;rw [List.length_eq_zero_iff.1 h0];exact Sl.nil
 ·refine ⟨_,cap,rfl,fun i x hx=>?_⟩;have hi:i < ls.length:=by rw [hl];exact lt_of_get hx
  refine ⟨g,0,ls[i],rfl,(ho.lt g rfl).2,hb g hB,r.mono (fun _ _ h=>.inl h) (hr i x _ hx (List.getElem?_eq_getElem hi)),fun j u hu=>?_⟩;have:=ho.cells (g:=g) rfl _ u (flatten_at hlen i j _ u (List.getElem?_eq_getElem hi) hu)
  rw [add_at] at this;rw [Nat.add_assoc];exact this
theorem Own.keep (h:Own r N B E w v xs)(k:SKN N w w')(hb:∀ k,B≤k→¬ N k):Own r N B E w' v xs:=by
 obtain ⟨ls,hl,hr,ho⟩:=h;refine ⟨ls,hl,fun i x l h1 h2=>r.keep (k.mono fun _ h=>.inl h) (hr i x l h1 h2),ho.1,?_⟩;rcases ho.2 with h0 | ⟨g,cap,cur,rfl,hB,hg,h5,h6,h7,h8⟩
 ·exact .inl h0
 ·exact .inr ⟨g,cap,cur,rfl,hB,by rw [k.block g (ho.lt g rfl).2 (hb g hB)];exact hg,h5,h6,h7,h8⟩
theorem Own.len (h:Own r N B E w v xs):∃ A c,v=.slice A xs.length c:=by
 obtain ⟨ls,hl,hr,ho⟩:=h;rcases ho.2 with ⟨rfl,h0⟩ | ⟨g,cap,cur,rfl,hB,hg,_,_,_,_⟩
 ·exact ⟨none,0,by rw [h0]⟩
 ·exact ⟨_,cap,rfl⟩
end
def Rep.Flat {α:Type}(r:Rep α)(f:α→List Value):Prop:=∀ N w x l,r.rel N w x l ↔ l=f x
section
variable {ops:Array Oper} {rest:List Oper} {o:Oper} {a:Act} {Q:Exit→Act→World→Prop}
theorem app_flat {α:Type}{r:Rep α}{f:α→List Value}(hf:r.Flat f){w0:World}{cs:Array Value}{T E bytes:Nat}{z:Value}(ty:STy T E r.size bytes z)(hgd:o.guard=none)(s x:Operand)(ho:o.op=.call { callee:=.builtin .append,args:=#[s,x],argTypes:=#[T,T] })
  (N:Nat→Prop) (B:Nat) (v:Value) (xs:List α) (y:α) (c:Nat) (hs:a.eval s=v) (hown:Own r N B E w0 v xs) (hx:a.eval x=.slice (some ⟨w0.heap.size,0,none⟩) 1 c) (hcs:cs.toList=f y) (h1:∀ u∈f y,u.oneCell'=true)
  (hB:B≤w0.heap.size) (hlen:xs.length≤100000000) (hby:bytes≤1000)
  (h:∀ v' w',Own r N B E w' v' (xs++[y])→Below B w0 w'→wpList Tryz.prog ops Q rest (a.put o.dst v') w'):wpList Tryz.prog ops Q (o::rest) a (w0.alloc (.cells cs E)):=by
 obtain ⟨ls,hl,hr,ho2⟩:=hown;have hsz:(f y).length=r.size:=r.len ((hf N w0 y _).2 rfl)
 refine app_lit ty hgd s x ho B v xs.length ls.flatten 1 c hs ho2 hx (by have e:cs.size=(f y).length:=by rw [← hcs];simp
                                                                         omega) (by rw [hcs];exact h1) hB (by omega) hby ?_
 intro v' w' g1 g2 g3 g4;refine h v' w' ⟨ls++[f y],by simp [hl],fun i x l e1 e2=>(hf _ _ _ _).2 ?_,?_⟩ g3
 ·rcases Nat.lt_or_ge i xs.length with hi | hi
  ·rw [List.getElem?_append_left hi] at e1;rw [List.getElem?_append_left (by omega)] at e2;exact (hf _ _ _ _).1 (hr i x l e1 e2)
  ·rw [List.getElem?_append_right hi] at e1;rw [List.getElem?_append_right (by omega),hl] at e2;cases hk:i - xs.length with
   | zero=>rw [hk] at e1 e2;simp at e1 e2;rw [← e1,← e2]
   | succ k=>rw [hk] at e1;simp at e1
 ·rw [List.length_append,List.flatten_append];simpa [hcs] using g1
end
end
section
open Go Go.RowKit
structure Chunk where
 blk:Option Nat
 ok:(Nat→Prop)→World→Prop
 keep:∀ {M D:Nat→Prop} {w w':World},SKN D w w'→(∀ k,D k→M k)→(∀ k,blk=some k→¬ D k)→ok M w→ok M w'
 mono:∀ {M M':Nat→Prop} {w:World},(∀ k,k < w.heap.size→M' k→M k∨blk=some k)→ok M w→ok M' w
 lt:∀ {M:Nat→Prop} {w:World},ok M w→∀ k,blk=some k→k < w.heap.size
def Chunk.loc (X:Nat)(cs:Array Value)(T:TypeId):Chunk :=
 ⟨some X,fun _ w=>LV w X cs T,fun k _ hd h=>(k.block X h.lt (hd X rfl)).trans h,fun _ h=>h,fun h k e=>by cases e;exact h.lt⟩
theorem Own.lt {α:Type}{r:Rep α}{N:Nat→Prop}{B E:Nat}{w:World}{v:Value}{xs:List α}(h:Own r N B E w v xs)(k:Nat)(e:v.ownBlock=some k):B≤k∧k < w.heap.size:=by
 obtain ⟨ls,hl,hr,ho⟩:=h;exact ho.lt k e
theorem Own.keepD {α:Type}{r:Rep α}{M D:Nat→Prop}{B E:Nat}{w w':World}{v:Value}{xs:List α}(k:SKN D w w')(hd:∀ k,D k→M k)(hb:∀ k,v.ownBlock=some k→¬ D k)(h:Own r M B E w v xs):Own r M B E w' v xs:=by
 obtain ⟨ls,hl,hr,ho⟩:=h;refine ⟨ls,hl,fun i x l h1 h2=>r.keep (k.mono fun j h=>.inl (hd j h)) (hr i x l h1 h2),ho.1,?_⟩;rcases ho.2 with h0 | ⟨g,cap,cur,rfl,hB,hg,h5,h6,h7,h8⟩
 ·exact .inl h0
 ·exact .inr ⟨g,cap,cur,rfl,hB,by rw [k.block g (ho.lt g rfl).2 (hb g rfl)];exact hg,h5,h6,h7,h8⟩
theorem Own.monoD {α:Type}{r:Rep α}{M M':Nat→Prop}{B E:Nat}{w:World}{v:Value}{xs:List α}(hm:∀ k,k < w.heap.size→M' k→M k∨v.ownBlock=some k)(h:Own r M B E w v xs):Own r M' B E w v xs:=by
 obtain ⟨ls,hl,hr,ho⟩:=h;refine ⟨ls,hl,fun i x l h1 h2=>r.mono (fun k hk e=>?_) (hr i x l h1 h2),ho⟩;rcases e with e | e
 ·exact hm k hk e
 ·exact .inr e
def Chunk.own {α:Type}(r:Rep α)(B E:Nat)(v:Value)(xs:List α):Chunk :=
 ⟨v.ownBlock,fun M w=>Own r M B E w v xs,fun k hd hb h=>Own.keepD k hd hb h,fun hm h=>Own.monoD hm h,fun h k e=>(h.lt k e).2⟩
def Chunk.sl {α:Type}(r:Rep α)(A:Option Addr)(xs:List α):Chunk :=
 ⟨none,fun M w=>Sl r M w A xs,fun k hd _ h=>h.keep (k.mono hd),fun hm h=>h.mono (fun k hk e=>(hm k hk e).resolve_right (by simp)),fun _ _ e=>by cases e⟩
def Mut (B0:Nat)(cs:List Chunk)(k:Nat):Prop:=k < B0∨∃ c∈cs,c.blk=some k
def Lt (B k:Nat):Prop:=k < B
structure St (b m:Nat) (w0 w:World) (cs:List Chunk):Prop where
 g:G b m w0 w
 b0:b < w0.heap.size
 ok:∀ c∈cs,c.ok (Mut w0.heap.size cs) w
 new:∀ c∈cs,∀ k,c.blk=some k→w0.heap.size≤k
 sep:cs.Pairwise fun c d=>∀ k,c.blk=some k→d.blk≠some k
section
variable {b m n:Nat} {w0 w w':World} {cs:List Chunk}
theorem St.start (h:Strm b m w):St b m w w []:=⟨G.start h,h.lt,(fun c hc=>by cases hc),(fun c hc=>by cases hc),List.Pairwise.nil⟩
theorem St.lt (S:St b m w0 w cs){c:Chunk}(hc:c∈cs){k:Nat}(e:c.blk=some k):k < w.heap.size:=c.lt (S.ok c hc) k e
theorem St.step (S:St b m w0 w cs)(hk:SK b w w')(hs:Strm b n w'):St b n w0 w' cs :=
 ⟨S.g.step hk hs,S.b0,fun c hc=>c.keep hk.n (fun k e=>by unfold Off at e;subst e;exact .inl S.b0) (fun k e ho=>by unfold Off at ho;subst ho;have:=S.new c hc _ e;have:=S.b0;omega) (S.ok c hc),S.new,S.sep⟩
theorem St.mono (S:St b m w0 w cs)(h:m≤n):St b n w0 w cs:=⟨S.g.mono h,S.b0,S.ok,S.new,S.sep⟩
theorem St.alloc (S:St b m w0 w cs)(o:Obj):St b m w0 (w.alloc o) cs:=S.step ((SK.refl b w).alloc o) (S.g.s.alloc o)
theorem St.below (S:St b m w0 w cs)(k:Below w.heap.size w w'):St b m w0 w' cs:=S.step (SK.ofBelow k) (S.g.s.keep k)
theorem St.call (S:St b m w0 w cs)(g:G b n w w')(c:Chunk)(hc:c.ok (Lt w.heap.size) w')(hb:∀ k,c.blk=some k→w.heap.size≤k):St b n w0 w' (cs++[c]):=by
 have hsz:=S.g.size;refine ⟨S.g.step g.k g.s,S.b0,fun d hd=>?_,fun d hd k e=>?_,?_⟩
 ·rcases List.mem_append.1 hd with hd | hd
  ·have h1:=d.mono (M':=Mut w0.heap.size (cs++[c])) (fun k hk e=>?_) (S.ok d hd)
   ·exact d.keep g.k.n (fun k e=>by unfold Off at e;subst e;exact .inl S.b0) (fun k e ho=>by unfold Off at ho;subst ho;have:=S.new d hd _ e;have:=S.b0;omega) h1
   ·rcases e with e | ⟨x,hx,e⟩
    ·exact .inl (.inl e)
    ·rcases List.mem_append.1 hx with hx | hx
     ·exact .inl (.inr ⟨x,hx,e⟩)
     ·rw [List.mem_singleton.1 hx] at e;have:=hb k e
      omega
  ·rw [List.mem_singleton.1 hd];refine c.mono (fun k hk e=>?_) hc;rcases e with e | ⟨x,hx,e⟩
   ·left;unfold Lt;omega
   ·rcases List.mem_append.1 hx with hx | hx
    ·exact .inl (S.lt hx e)
    ·rw [List.mem_singleton.1 hx] at e;exact .inr e
 ·rcases List.mem_append.1 hd with hd | hd
  ·exact S.new d hd k e
  ·rw [List.mem_singleton.1 hd] at e;have:=hb k e
   omega
 ·refine List.pairwise_append.2 ⟨S.sep,List.pairwise_singleton _ _,fun x hx y hy k e1 e2=>?_⟩;rw [List.mem_singleton.1 hy] at e2;have:=hb k e2
  have:=S.lt hx e1
  omega
theorem St.new' (S:St b m w0 w cs)(cells:Array Value)(T:TypeId):St b m w0 (w.alloc (.cells cells T)) (cs++[.loc w.heap.size cells T]) :=
 S.call ⟨(SK.refl b w).alloc _,S.g.s.alloc _⟩ _ (LV.new w w.heap.size cells T rfl) (fun k e=>by cases e;exact Nat.le_refl _)
theorem St.newAt (S:St b m w0 w cs)(cells:Array Value)(T:TypeId)(X:Nat)(hX:X=w.heap.size):St b m w0 (w.alloc (.cells cells T)) (cs++[.loc X cells T]):=by subst hX;exact S.new' cells T
theorem St.nil {α:Type}(S:St b m w0 w cs)(r:Rep α)(B E:Nat):St b m w0 w (cs++[.own r B E (.slice none 0 0) []]) :=
 S.call ⟨SK.refl b w,S.g.s⟩ (.own r B E (.slice none 0 0) []) (Own.nil r _ B E w) (fun k e=>by cases e)
theorem mem_set_cases {α:Type}{l:List α}{i:Nat}{a x:α}(h:x∈l.set i a):x=a∨∃ j,j≠i∧l[j]? =some x:=by
 obtain ⟨j,hj⟩:=List.mem_iff_getElem?.1 h;rw [List.getElem?_set] at hj;split at hj
 ·split at hj
  ·exact .inl (Option.some.inj hj).symm
  ·cases hj
 ·exact .inr ⟨j,fun e=>by subst e;simp_all,hj⟩
theorem St.apart (S:St b m w0 w cs){i j:Nat}{c d:Chunk}(hi:cs[i]? =some c)(hj:cs[j]? =some d)(hij:j≠i){k:Nat}(e:c.blk=some k):d.blk≠some k:=by
 have hsep:=List.pairwise_iff_getElem.1 S.sep;obtain ⟨hi',rfl⟩:=List.getElem?_eq_some_iff.1 hi;obtain ⟨hj',rfl⟩:=List.getElem?_eq_some_iff.1 hj;rcases Nat.lt_or_gt_of_ne hij with h | h
 ·exact fun e2=>hsep j i hj' hi' h k e2 e
 ·exact hsep i j hi' hj' h k e
theorem St.upd (S:St b m w0 w cs)(i:Nat){c:Chunk}(hi:cs[i]? =some c)(c':Chunk)(hk:SKN (fun k=>c.blk=some k) w w')(hg:G b n w0 w')(hnew:∀ k,c'.blk=some k→c.blk=some k∨w.heap.size≤k)(hok:c'.ok (Mut w0.heap.size (cs.set i c')) w'):St b n w0 w' (cs.set i c'):=by
 have hsz:=S.g.size;have hc:=List.mem_of_getElem? hi;have hmem:∀ d∈cs.set i c',d=c'∨∃ j,j≠i∧cs[j]? =some d:=fun d hd=>mem_set_cases hd;refine ⟨hg,S.b0,fun d hd=>?_,fun d hd k e=>?_,?_⟩
 ·rcases hmem d hd with rfl | ⟨j,hj,hdj⟩
  ·exact hok
  ·have hdm:=List.mem_of_getElem? hdj;have h1:=d.mono (M':=fun k=>Mut w0.heap.size cs k∨Mut w0.heap.size (cs.set i c') k) (fun k hk e=>?_) (S.ok d hdm)
   ·have h2:=d.keep hk (fun k e=>.inl (.inr ⟨c,hc,e⟩)) (fun k e1 e2=>S.apart hi hdj hj e2 e1) h1;exact d.mono (fun k _ e=>.inl (.inr e)) h2
   ·rcases e with e | e
    ·exact .inl e
    ·rcases e with e | ⟨x,hx,e⟩
     ·exact .inl (.inl e)
     ·rcases hmem x hx with rfl | ⟨j',_,hx'⟩
      ·rcases hnew k e with e | e
       ·exact .inl (.inr ⟨c,hc,e⟩)
       ·omega
      ·exact .inl (.inr ⟨x,List.mem_of_getElem? hx',e⟩)
 ·rcases hmem d hd with rfl | ⟨j,hj,hdj⟩
  ·rcases hnew k e with e | e
   ·exact S.new c hc k e
   ·omega
  ·exact S.new d (List.mem_of_getElem? hdj) k e
 ·refine List.pairwise_iff_getElem.2 fun p q hp hq hpq k e1 e2=>?_;have e1':(cs.set i c')[p]? =some ((cs.set i c')[p]):=List.getElem?_eq_getElem hp;have e2':(cs.set i c')[q]? =some ((cs.set i c')[q]):=List.getElem?_eq_getElem hq;rw [List.length_set] at hp hq;rw [List.getElem_set] at e1 e2;have hlt:∀ j (hj:j < cs.length),cs[j].blk=some k→k < w.heap.size:=fun j hj e=>S.lt (List.getElem_mem hj) e;split at e1 <;> split at e2
  ·omega
  ·rename_i h1 h2;subst h1;rcases hnew k e1 with e | e
   ·exact S.apart hi (List.getElem?_eq_getElem hq) (fun h=>h2 h.symm) e e2
   ·have:=hlt q hq e2;omega
  ·rename_i h1 h2;subst h2;rcases hnew k e2 with e | e
   ·exact S.apart hi (List.getElem?_eq_getElem hp) (fun h=>h1 h.symm) e e1
   ·have:=hlt p hp e1;omega
  ·exact List.pairwise_iff_getElem.1 S.sep p q hp hq hpq k e1 e2
theorem St.lv (S:St b m w0 w cs)(i:Nat){X:Nat}{cells:Array Value}{T:TypeId}(hi:cs[i]? =some (.loc X cells T)):LV w X cells T:=S.ok _ (List.mem_of_getElem? hi)
theorem St.ge (S:St b m w0 w cs)(i:Nat){X:Nat}{cells:Array Value}{T:TypeId}(hi:cs[i]? =some (.loc X cells T)):w0.heap.size≤X∧X < w.heap.size:=⟨S.new _ (List.mem_of_getElem? hi) X rfl,(S.lv i hi).lt⟩
theorem St.set (S:St b m w0 w cs)(i j:Nat)(u:Value){X:Nat}{cells:Array Value}{T:TypeId}(hi:cs[i]? =some (.loc X cells T)):St b m w0 (w.setCell ⟨X,j,none⟩ u) (cs.set i (.loc X (cells.setIfInBounds j u) T)):=by
 have h1:=S.ge i hi;have hb:=S.b0;refine S.upd i hi _ ⟨by simp [World.setCell],fun k _ hn=>Below.heap_setCell _ _ _ _ (fun e=>hn (by rw [e];rfl))⟩ (S.g.set (by omega) h1.1 j u) (fun k e=>.inl e) ?_;exact (S.lv i hi).set j u _ rfl
theorem St.ow {α:Type}{r:Rep α}{B E:Nat}{v:Value}{xs:List α}(S:St b m w0 w cs)(i:Nat)(hi:cs[i]? =some (.own r B E v xs)):Own r (Mut w0.heap.size cs) B E w v xs:=S.ok _ (List.mem_of_getElem? hi)
theorem St.slc {α:Type}{r:Rep α}{A:Option Addr}{xs:List α}(S:St b m w0 w cs)(i:Nat)(hi:cs[i]? =some (.sl r A xs)):Sl r (Mut w0.heap.size cs) w A xs:=S.ok _ (List.mem_of_getElem? hi)
theorem St.del (S:St b m w0 w cs)(i:Nat):St b m w0 w (cs.eraseIdx i):=by
 have hs:=List.eraseIdx_sublist cs i;refine ⟨S.g,S.b0,fun c hc=>c.mono (fun k _ e=>?_) (S.ok c (hs.subset hc)),fun c hc=>S.new c (hs.subset hc),S.sep.sublist hs⟩;rcases e with e | ⟨x,hx,e⟩
 ·exact .inl (.inl e)
 ·exact .inl (.inr ⟨x,hs.subset hx,e⟩)
theorem St.frz {α:Type}{r:Rep α}{B E:Nat}{v:Value}{xs:List α}(S:St b m w0 w cs)(i:Nat)(hi:cs[i]? =some (.own r B E v xs)):∃ A c,v=.slice A xs.length c∧St b m w0 w (cs.set i (.sl r A xs)):=by
 have ho:=S.ow i hi;obtain ⟨A,c,e⟩:=ho.len;refine ⟨A,c,e,S.upd i hi _ ⟨Nat.le_refl _,fun _ _ _=>rfl⟩ S.g (fun k e=>by cases e) ?_⟩;have hnm:∀ k,v.ownBlock=some k→¬ Mut w0.heap.size (cs.set i (.sl r A xs)) k:=fun k ek hm=>by
  rcases hm with hm | ⟨x,hx,ex⟩
  ·have:=S.new _ (List.mem_of_getElem? hi) k ek;omega
  ·rcases mem_set_cases hx with rfl | ⟨j,hj,hx⟩
   ·cases ex
   ·exact S.apart hi hx hj ek ex
 have hmm:∀ k,Mut w0.heap.size (cs.set i (.sl r A xs)) k→Mut w0.heap.size cs k:=fun k hm=>by
  rcases hm with hm | ⟨x,hx,ex⟩
  ·exact .inl hm
  ·rcases mem_set_cases hx with rfl | ⟨j,hj,hx⟩
   ·cases ex
   ·exact .inr ⟨x,List.mem_of_getElem? hx,ex⟩
 obtain ⟨ls,hl,hr,hown⟩:=ho;have hlen:∀ l∈ls,l.length=r.size:=fun l hm=>by
  obtain ⟨i,hi,e⟩:=List.getElem_of_mem hm;exact r.len (hr i (xs[i]'(by omega)) l (by simp) (by rw [List.getElem?_eq_getElem hi,e]))
 rcases hown.2 with ⟨rfl,h0⟩ | ⟨g,cap,cur,rfl,hB,hg,_,_,_,_⟩
 ·rw [List.length_eq_zero_iff.1 h0];exact Sl.nil
 ·cases e;intro j x hx;have hj:j < ls.length:=by rw [hl];exact lt_of_get hx
  refine ⟨g,0,ls[j],rfl,(hown.lt g rfl).2,hnm g rfl,r.mono (fun k _ h=>.inl (hmm k h)) (hr j x _ hx (List.getElem?_eq_getElem hj)),fun p u hu=>?_⟩;have:=hown.cells (g:=g) rfl _ u (flatten_at hlen j p _ u (List.getElem?_eq_getElem hj) hu)
  rw [add_at] at this;rw [Nat.add_assoc];exact this
end
section
variable {P:Program} (w:World)
theorem run_append_where (base:Nat)(t ty e:TypeId)(i:TypeInfo)(z:Value)(size bytes:Nat)(ht:P.underlying t=some (.slice e))(hi:P.info? e=some i)(hz:i.zero=some z)
  (hsize:i.size=size) (hby:i.bytes=bytes) (hzs:z.cells.size=size) (hsz:0 < size)
  (v:Value) (n:Nat) (xs:List Value) (hown:w.ownsRow base e size v n xs)
  (a:Addr) (m c:Nat) (news:List Value) (hl:news.length=m * size) (hnews:∀ j u,news[j]? =some u→w.cell? (a.add j)=some u) (h1:∀ u∈news,u.oneCell'=true)
  (h63:n + m≤maxLen) (hbytes:(n + m) * bytes≤140737488355328) {v':Value} {w':World}
  (hr:(Builtin.append_ #[t,t] ty #[v,.slice (some a) m c]).run P w=.ok v' w'):∀ k,v'.ownBlock=some k→v.ownBlock=some k∨w.heap.size≤k:=by
 rcases hown.2 with ⟨rfl,rfl⟩ | ⟨g,cap,cur,rfl,hB,hg,h5,h6,h7,h8⟩
 ·have hown':w.ownsRow w.heap.size e size (.slice none 0 0) 0 xs:=⟨hown.1,.inl ⟨rfl,rfl⟩⟩;obtain ⟨v2,w2,hr2,ho2,_⟩:=run_append_own (P:=P) w w.heap.size t ty e i z size bytes ht hi hz hsize hby hzs hsz _ 0 xs hown' a m c news hl hnews h1 h63 hbytes (Nat.le_refl _);rw [hr] at hr2;injection hr2 with e1 e2
  subst e1;exact fun k hk=>.inr (ho2.lt k hk).1
 ·subst hsize hby;by_cases hroom:n + m≤cap
  ·obtain ⟨w2,hr2,ho2,_⟩:=run_append_fits (P:=P) w base t ty e i i.size ht hi rfl g n cap xs hown a m c news hl hnews h1 hroom;rw [hr] at hr2;injection hr2 with e1 e2
   subst e1;exact fun k hk=>.inl hk
  ·have hr2:=run_append_grow (P:=P) w t ty e i z ht hi hz ⟨g,0,none⟩ n cap xs hown.1 (hown.cells (g:=g) rfl) a m c news hl hnews (by omega) (by simp only [maxLen] at h63;omega) (growslice_fits (by omega) hbytes);rw [hr] at hr2;injection hr2 with e1 e2
   subst e1;exact fun k hk=>.inr (by cases hk;simp)
end
section
variable {ops:Array Oper} {rest:List Oper} {o:Oper} {a:Act} {Q:Exit→Act→World→Prop}
theorem St.app {α:Type}{r:Rep α}{b m:Nat}{w0 w:World}{cs:List Chunk}(S:St b m w0 w cs)(i:Nat){B E:Nat}{v:Value}{xs:List α}(hi:cs[i]? =some (.own r B E v xs)){T bytes:Nat}{z:Value}(ty:STy T E r.size bytes z){arr:Array Value}
  (hgd:o.guard=none) (s x:Operand) (ho:o.op=.call { callee:=.builtin .append,args:=#[s,x],argTypes:=#[T,T] }) (y:α) (c:Nat) (hs:a.eval s=v) (hx:a.eval x=.slice (some ⟨w.heap.size,0,none⟩) 1 c)
  (hy:r.rel (Mut w0.heap.size cs) w y arr.toList) (h1:∀ u∈arr.toList,u.oneCell'=true) (hB:B≤w.heap.size) (hlen:xs.length≤100000000) (hby:bytes≤1000)
  (h:∀ v' w',St b m w0 w' (cs.set i (.own r B E v' (xs++[y])))→wpList Tryz.prog ops Q rest (a.put o.dst v') w'):wpList Tryz.prog ops Q (o::rest) a (w.alloc (.cells arr E)):=by
 have hown:=S.ow i hi;obtain ⟨ls,hl,hr,ho2⟩:=hown;have hsz:arr.toList.length=r.size:=r.len hy;obtain ⟨i0,hi0,hz0,hz1,hz2⟩:=info_parts ty.info;have hnews:∀ j u,arr.toList[j]? =some u→(w.alloc (.cells arr E)).cell? ((⟨w.heap.size,0,none⟩:Addr).add j)=some u:=by
  intro j u hj;rw [add_at,World.cell?_alloc_at _ _ _ _ rfl];simpa using hj
 have hb3:(xs.length + 1) * bytes≤140737488355328:=by
  have:=Nat.mul_le_mul (show xs.length + 1≤100000001 by omega) hby
  omega
 have h63:xs.length + 1≤maxLen:=by unfold maxLen;omega
 obtain ⟨v',w',hrun,g1,g2,_⟩:=run_append_own (P:=Tryz.prog) (w.alloc (.cells arr E)) B T o.type E i0 z r.size bytes ty.under hi0 hz0 hz1 hz2 ty.zsize ty.pos _ xs.length _ (ho2.alloc _) ⟨w.heap.size,0,none⟩ 1 c arr.toList (by omega) hnews h1 h63 hb3 (by simp;omega);have hwh:=run_append_where (P:=Tryz.prog) (w.alloc (.cells arr E)) B T o.type E i0 z r.size bytes ty.under hi0 hz0 hz1 hz2 ty.zsize ty.pos _ xs.length _ (ho2.alloc _) ⟨w.heap.size,0,none⟩ 1 c arr.toList (by omega) hnews h1 h63 hb3 hrun;have hg:w.grownBy w' v.ownBlock:=⟨g2.os,g2.tape,g2.output,by have:=g2.size;simp at this;omega,fun k hk hn=>by rw [g2.block k (by simp;omega) hn];exact Below.heap_alloc _ _ _ hk⟩;have hbl:Below w0.heap.size w w':=(Below.refl _ w).grown hg S.g.size (fun k hk=>S.new _ (List.mem_of_getElem? hi) k hk);have hskn:SKN (fun k=>v.ownBlock=some k) w w':=⟨hg.size,fun k hk hn=>hg.block k hk (fun e=>hn e.symm)⟩;refine wpList_plain hgd fun _ hK=>?_;unfold Oper.wp execOp;simp only [ho,resolve,invoke,builtin,Sem.run_bind,Sem.run_pure,Result.andThen_ok,List.map_toArray,List.map_cons,List.map_nil,hs,hx,hrun];refine hK _ _ (h v' w' (S.upd i hi _ hskn (S.g.belowB hbl S.b0) (fun k e=>?_) ?_))
 ·rcases hwh k e with e | e
  ·exact .inl e
  ·right;simp at e;omega
 ·have hc:=List.mem_of_getElem? hi;have up:∀ x l,r.rel (NOr (Mut w0.heap.size cs) v) w x l→r.rel (NOr (Mut w0.heap.size (cs.set i (.own r B E v' (xs++[y])))) v') w' x l:=fun x l hx=>by
   have h1:=r.mono (M:=fun k=>NOr (Mut w0.heap.size cs) v k∨NOr (Mut w0.heap.size (cs.set i (.own r B E v' (xs++[y])))) v' k) (fun k hk e=>?_) hx
   ·exact r.mono (fun k _ e=>.inr e) (r.keep (hskn.mono fun k e=>.inl (.inr e)) h1)
   ·have nw:v'.ownBlock=some k→NOr (Mut w0.heap.size cs) v k:=fun e=>by
     rcases hwh k e with e | e
     ·exact .inr e
     ·simp at e;omega
    rcases e with e | e | e
    ·exact e
    ·rcases e with e | ⟨q,hq,e⟩
     ·exact .inl (.inl e)
     ·rcases mem_set_cases hq with rfl | ⟨j,_,hq⟩
      ·exact nw e
      ·exact .inl (.inr ⟨q,List.mem_of_getElem? hq,e⟩)
    ·exact nw e
  refine ⟨ls++[arr.toList],by simp [hl],fun j x l e1 e2=>?_,?_⟩
  ·rcases Nat.lt_or_ge j xs.length with hj | hj
   ·rw [List.getElem?_append_left hj] at e1;rw [List.getElem?_append_left (by omega)] at e2;exact up x l (hr j x l e1 e2)
   ·rw [List.getElem?_append_right hj] at e1;rw [List.getElem?_append_right (by omega),hl] at e2;cases hk:j - xs.length with
    | zero =>
     rw [hk] at e1 e2;simp at e1 e2;subst e1 e2;refine up y _ (r.mono (fun k _ e=>?_) hy);rcases e with e | e
     ·exact e
     ·exact .inr ⟨_,hc,e⟩
    | succ k=>rw [hk] at e1;simp at e1
  ·rw [List.length_append,List.flatten_append];simpa using g1
end
theorem flatten_set {ls:List (List Value)}{n:Nat}(h:∀ l∈ls,l.length=n)(p j:Nat)(l:List Value)(u:Value)(hl:ls[p]? =some l)(hj:j < n):ls.flatten.set (p * n + j) u=(ls.set p (l.set j u)).flatten:=by
 induction ls generalizing p with
 | nil=>simp at hl
 | cons a t ih =>
  have ha:=h a (by simp);cases p with
  | zero =>
   simp at hl;subst hl;rw [List.flatten_cons,Nat.zero_mul,Nat.zero_add,List.set_append_left _ _ (by omega),List.set_cons_zero,List.flatten_cons]
  | succ p =>
   rw [List.flatten_cons,List.set_append_right _ _ (by rw [ha,Nat.succ_mul];omega),ha,show (p + 1) * n + j - n=p * n + j by rw [Nat.succ_mul];omega,List.set_cons_succ,List.flatten_cons,
    ih (fun l hl'=>h l (by simp [hl'])) p (by simpa using hl)]
theorem Own.put {α:Type}{r:Rep α}{f:α→List Value}(hf:r.Flat f){M:Nat→Prop}{B E g n cap:Nat}{w:World}{xs:List α}(h:Own r M B E w (.slice (some ⟨g,0,none⟩) n cap) xs)(hn:n=xs.length)(p:Nat)(x x':α)(hx:xs[p]? =some x)(j:Nat)(hj:j < r.size)(u:Value)(hu:f x'=(f x).set j u) :
  Own r M B E (w.setCell ⟨g,p * r.size + j,none⟩ u) (.slice (some ⟨g,0,none⟩) n cap) (xs.set p x'):=by
 subst hn;obtain ⟨ls,hl,hr,ho⟩:=h;have hlen:∀ l∈ls,l.length=r.size:=fun l hm=>by
  obtain ⟨i,hi,e⟩:=List.getElem_of_mem hm;exact r.len (hr i (xs[i]'(by omega)) l (by simp) (by rw [List.getElem?_eq_getElem hi,e]))
 have hp:p < xs.length:=lt_of_get hx;have hlp:ls[p]? =some (ls[p]'(by omega)):=List.getElem?_eq_getElem (by omega);have hfx:=(hf _ _ _ _).1 (hr p x _ hx hlp);have hst:=(World.ownsRow.stored ho (p * r.size + j) u).1;refine ⟨ls.set p (f x'),by simp [hl],fun i y l e1 e2=>(hf _ _ _ _).2 ?_,?_⟩
 ·rw [List.getElem?_set] at e1 e2;by_cases hip:p=i
  ·subst hip;rw [if_pos rfl,if_pos hp] at e1;rw [if_pos rfl,if_pos (by omega)] at e2;rw [← Option.some.inj e1,← Option.some.inj e2]
  ·rw [if_neg hip] at e1 e2;exact (hf _ _ _ _).1 (hr i y l e1 e2)
 ·rw [List.length_set,hu,← hfx,← flatten_set hlen p j _ u hlp hj];exact hst
theorem Own.cellP {α:Type}{r:Rep α}{f:α→List Value}(hf:r.Flat f){M:Nat→Prop}{B E g n cap:Nat}{w:World}{xs:List α}(h:Own r M B E w (.slice (some ⟨g,0,none⟩) n cap) xs)(hn:n=xs.length)(p:Nat)(x:α)(hx:xs[p]? =some x)(j:Nat)(u:Value)(hu:(f x)[j]? =some u) :
  w.cell? ⟨g,p * r.size + j,none⟩=some u∧w.frozen? ⟨g,p * r.size + j,none⟩=false:=by
 subst hn;obtain ⟨ls,hl,hr,ho⟩:=h;have hlen:∀ l∈ls,l.length=r.size:=fun l hm=>by
  obtain ⟨i,hi,e⟩:=List.getElem_of_mem hm;exact r.len (hr i (xs[i]'(by omega)) l (by simp) (by rw [List.getElem?_eq_getElem hi,e]))
 have hp:p < xs.length:=lt_of_get hx;have hlp:ls[p]? =some (ls[p]'(by omega)):=List.getElem?_eq_getElem (by omega);have hfx:=(hf _ _ _ _).1 (hr p x _ hx hlp);have hc:=ho.cells (g:=g) rfl _ u (flatten_at hlen p j _ u hlp (by rw [hfx];exact hu));rw [add_at,Nat.zero_add] at hc;exact ⟨hc,ho.frozenAt _⟩
theorem St.put {α:Type}{r:Rep α}{f:α→List Value}(hf:r.Flat f){b m:Nat}{w0 w:World}{cs:List Chunk}(S:St b m w0 w cs)(i:Nat){B E g n cap:Nat}{xs:List α}(hi:cs[i]? =some (.own r B E (.slice (some ⟨g,0,none⟩) n cap) xs))(hn:n=xs.length)(p:Nat)(x x':α)(hx:xs[p]? =some x)(j:Nat)(hj:j < r.size)(u:Value)(hu:f x'=(f x).set j u) :
  St b m w0 (w.setCell ⟨g,p * r.size + j,none⟩ u) (cs.set i (.own r B E (.slice (some ⟨g,0,none⟩) n cap) (xs.set p x'))):=by
 have hg0:=S.new _ (List.mem_of_getElem? hi) g rfl;have hb:=S.b0;refine S.upd i hi _ ⟨by simp [World.setCell],fun k _ hne=>Below.heap_setCell _ _ _ _ (fun e=>hne (by rw [e];rfl))⟩ (S.g.set (by omega) hg0 _ u) (fun k e=>.inl e) ?_;have:=(Own.put hf (S.ow i hi) hn p x x' hx j hj u hu)
 refine Own.monoD (fun k _ e=>?_) this;rcases e with e | ⟨q,hq,e⟩
 ·exact .inl (.inl e)
 ·rcases mem_set_cases hq with rfl | ⟨k',_,hq⟩
  ·exact .inr e
  ·exact .inl (.inr ⟨q,List.mem_of_getElem? hq,e⟩)
theorem Own.form {α:Type}{r:Rep α}{N:Nat→Prop}{B E:Nat}{w:World}{v:Value}{xs:List α}(h:Own r N B E w v xs)(hx:1≤xs.length):∃ g cap,v=.slice (some ⟨g,0,none⟩) xs.length cap∧xs.length≤cap:=by
 obtain ⟨ls,hl,hr,ho⟩:=h;rcases ho.2 with ⟨_,h0⟩ | ⟨g,cap,cur,rfl,hB,_,h5,_⟩
 ·omega
 ·exact ⟨g,cap,rfl,h5⟩
theorem St.callN {b m n:Nat}{w0 w w':World}{cs:List Chunk}(S:St b m w0 w cs)(g:G b n w w')(ds:List Chunk)(hok:∀ d∈ds,d.ok (fun k=>k < w.heap.size∨∃ e∈ds,e.blk=some k) w')(hb:∀ d∈ds,∀ k,d.blk=some k→w.heap.size≤k)
  (hsep:ds.Pairwise fun c d=>∀ k,c.blk=some k→d.blk≠some k):St b n w0 w' (cs++ds):=by
 have hsz:=S.g.size;refine ⟨S.g.step g.k g.s,S.b0,fun d hd=>?_,fun d hd k e=>?_,?_⟩
 ·rcases List.mem_append.1 hd with hd | hd
  ·have h1:=d.mono (M':=Mut w0.heap.size (cs++ds)) (fun k hk e=>?_) (S.ok d hd)
   ·exact d.keep g.k.n (fun k e=>by unfold Off at e;subst e;exact .inl S.b0) (fun k e ho=>by unfold Off at ho;subst ho;have:=S.new d hd _ e;have:=S.b0;omega) h1
   ·rcases e with e | ⟨x,hx,e⟩
    ·exact .inl (.inl e)
    ·rcases List.mem_append.1 hx with hx | hx
     ·exact .inl (.inr ⟨x,hx,e⟩)
     ·have:=hb x hx k e
      omega
  ·refine d.mono (fun k hk e=>?_) (hok d hd);rcases e with e | ⟨x,hx,e⟩
   ·left;left;omega
   ·rcases List.mem_append.1 hx with hx | hx
    ·exact .inl (.inl (S.lt hx e))
    ·exact .inl (.inr ⟨x,hx,e⟩)
 ·rcases List.mem_append.1 hd with hd | hd
  ·exact S.new d hd k e
  ·have:=hb d hd k e
   omega
 ·refine List.pairwise_append.2 ⟨S.sep,hsep,fun x hx y hy k e1 e2=>?_⟩;have:=hb y hy k e2
  have:=S.lt hx e1
  omega
theorem Own.flatM {α:Type}{r:Rep α}{f:α→List Value}(hf:r.Flat f){M M':Nat→Prop}{B E:Nat}{w:World}{v:Value}{xs:List α}(h:Own r M B E w v xs):Own r M' B E w v xs:=by
 obtain ⟨ls,h1,h2,ho⟩:=h;exact ⟨ls,h1,fun i x l e1 e2=>(hf _ _ _ _).2 ((hf _ _ _ _).1 (h2 i x l e1 e2)),ho⟩
theorem Own.ofLV {α:Type}{r:Rep α}{f:α→List Value}(hf:r.Flat f){M:Nat→Prop}{B E X:Nat}{w:World}{xs:List α}{cs:Array Value}(h:LV w X cs E)(hB:B≤X)(hcs:cs.toList=(xs.map f).flatten)(hs:cs.size=xs.length * r.size)(hl:xs.length≤1000000):Own r M B E w (.slice (some ⟨X,0,none⟩) xs.length xs.length) xs:=by
 refine ⟨xs.map f,by simp,fun i x l h1 h2=>(hf _ _ _ _).2 ?_,?_,.inr ⟨X,xs.length,cs,rfl,hB,h,Nat.le_refl _,by unfold maxLen;omega,hs,?_⟩⟩
 ·rw [List.getElem?_map,h1] at h2;exact (Option.some.inj h2).symm
 ·rw [← hcs];simpa using hs
 ·rw [List.take_of_length_le (by simp [hs]),hcs]
theorem Own.toSlC {α:Type}{r:Rep α}{N:Nat→Prop}{B E:Nat}{w:World}{v:Value}{xs:List α}(h:Own r N B E w v xs)(hb:∀ k,B≤k→¬ N k):∃ A c,v=.slice A xs.length c∧xs.length≤c∧Sl r N w A xs:=by
 obtain ⟨A,c,e,hS⟩:=h.toSl hb;refine ⟨A,c,e,?_,hS⟩;obtain ⟨ls,hl,hr,ho⟩:=h;rcases ho.2 with ⟨rfl,h0⟩ | ⟨g,cap,cur,rfl,_,_,h5,_⟩
 ·omega
 ·cases e;exact h5
theorem Own.blkTag {α:Type}{r:Rep α}{N:Nat→Prop}{B E X:Nat}{w:World}{v:Value}{xs:List α}{cs:Array Value}{T:TypeId}(h:Own r N B E w v xs)(l:LV w X cs T)(hT:T≠E):∀ k,v.ownBlock=some k→k≠X:=by
 intro k e hk;subst hk;obtain ⟨ls,_,_,ho⟩:=h;rcases ho.2 with ⟨rfl,_⟩ | ⟨g,cap,cur,rfl,_,hg,_⟩
 ·cases e
 ·obtain rfl:g=k:=by simpa [Value.ownBlock] using e
  unfold LV at l;rw [l] at hg;cases hg;exact hT rfl
theorem Own.blkTag2 {α β:Type}{r:Rep α}{r2:Rep β}{N N2:Nat→Prop}{B B2 E E2:Nat}{w:World}{v v2:Value}{xs:List α}{ys:List β}(h:Own r N B E w v xs)(h2:Own r2 N2 B2 E2 w v2 ys)(hT:E≠E2):∀ k,v.ownBlock=some k→v2.ownBlock≠some k:=by
 intro k e1 e2;obtain ⟨ls,_,_,ho⟩:=h;obtain ⟨ls2,_,_,ho2⟩:=h2;rcases ho.2 with ⟨rfl,_⟩ | ⟨g,cap,cur,rfl,_,hg,_⟩
 ·cases e1
 ·rcases ho2.2 with ⟨rfl,_⟩ | ⟨g2,cap2,cur2,rfl,_,hg2,_⟩
  ·cases e2
  ·obtain rfl:g=k:=by simpa [Value.ownBlock] using e1
   obtain rfl:g2=g:=by simpa [Value.ownBlock] using e2
   rw [hg] at hg2;cases hg2;exact hT rfl
end
section
open Go.RowKit
theorem pairwise_perm {cs ds:List Chunk}(h:cs.Perm ds)(hp:cs.Pairwise fun c d=>∀ k,c.blk=some k→d.blk≠some k):ds.Pairwise fun c d=>∀ k,c.blk=some k→d.blk≠some k :=
 (h.pairwise_iff (fun {_ _} hxy k e1 e2=>hxy k e2 e1)).1 hp
theorem St.perm {b m:Nat}{w0 w:World}{cs ds:List Chunk}(S:St b m w0 w cs)(h:cs.Perm ds):St b m w0 w ds:=by
 refine ⟨S.g,S.b0,fun c hc=>c.mono (fun k _ e=>.inl ?_) (S.ok c (h.mem_iff.2 hc)),fun c hc=>S.new c (h.mem_iff.2 hc),pairwise_perm h S.sep⟩;rcases e with e | ⟨x,hx,e⟩
 ·exact .inl e
 ·exact .inr ⟨x,h.mem_iff.2 hx,e⟩
theorem St.join {b m n:Nat}{w0 w w':World}{cs ds:List Chunk}(S:St b m w0 w cs)(T:St b n w w' ds):St b n w0 w' (cs++ds) :=
 S.callN T.g ds (fun d hd=>T.ok d hd) (fun d hd=>T.new d hd) T.sep
theorem St.front {b m:Nat}{w0 w:World}{cs:List Chunk}{c:Chunk}(S:St b m w0 w (cs++[c])):St b m w0 w (c::cs):=S.perm List.perm_append_comm
theorem perm_erase {α:Type}:∀ (l:List α) (i:Nat) (h:i < l.length),(l[i]::l.eraseIdx i).Perm l
 | [],i,h=>by simp at h
 | x::r,0,_=>by simp
 | x::r,i + 1,h=>by
  simp only [List.getElem_cons_succ,List.eraseIdx_cons_succ];exact (List.Perm.swap _ _ _).trans ((perm_erase r i (by simpa using h)).cons x)
end
section
open Go Go.RowKit
theorem LV.all {w:World}{X:Nat}{cs:Array Value}{T:TypeId}(h:LV w X cs T):(∀ j,w.cell? ⟨X,j,none⟩=cs[j]?)∧∀ j,w.frozen? ⟨X,j,none⟩=false:=by
 refine ⟨fun j=>?_,h.free⟩;by_cases hj:j < cs.size
 ·rw [h.cell j cs[j] (by simp [hj])];simp [hj]
 ·unfold LV at h;simp [World.cell?,h,hj]
structure Mem (w0 w:World) (cs:List Chunk):Prop where
 b:Below w0.heap.size w0 w
 ok:∀ c∈cs,c.ok (Mut w0.heap.size cs) w
 new:∀ c∈cs,∀ k,c.blk=some k→w0.heap.size≤k
 sep:cs.Pairwise fun c d=>∀ k,c.blk=some k→d.blk≠some k
section
variable {w0 w w':World} {cs:List Chunk}
theorem Mem.start (w:World):Mem w w []:=⟨Below.refl _ _,(fun c hc=>by cases hc),(fun c hc=>by cases hc),List.Pairwise.nil⟩
theorem Mem.below (S:Mem w0 w cs)(k:Below w.heap.size w w'):Mem w0 w' cs :=
 ⟨S.b.trans (k.mono S.b.size),fun c hc=>c.keep (SKN.ofBelow (N:=fun _=>False) k) (fun _ e=>e.elim) (fun _ _ e=>e) (S.ok c hc),S.new,S.sep⟩
theorem Mem.lt (S:Mem w0 w cs){c:Chunk}(hc:c∈cs){k:Nat}(e:c.blk=some k):k < w.heap.size:=c.lt (S.ok c hc) k e
theorem Mem.call (S:Mem w0 w cs)(g:Below w.heap.size w w')(c:Chunk)(hc:c.ok (Lt w.heap.size) w')(hb:∀ k,c.blk=some k→w.heap.size≤k):Mem w0 w' (cs++[c]):=by
 have hsz:=S.b.size;refine ⟨S.b.trans (g.mono S.b.size),fun d hd=>?_,fun d hd k e=>?_,?_⟩
 ·rcases List.mem_append.1 hd with hd | hd
  ·have h1:=d.mono (M':=Mut w0.heap.size (cs++[c])) (fun k hk e=>?_) (S.ok d hd)
   ·exact d.keep (SKN.ofBelow (N:=fun _=>False) g) (fun _ e=>e.elim) (fun _ _ e=>e) h1
   ·rcases e with e | ⟨x,hx,e⟩
    ·exact .inl (.inl e)
    ·rcases List.mem_append.1 hx with hx | hx
     ·exact .inl (.inr ⟨x,hx,e⟩)
     ·rw [List.mem_singleton.1 hx] at e;have:=hb k e
      omega
  ·rw [List.mem_singleton.1 hd];refine c.mono (fun k hk e=>?_) hc;rcases e with e | ⟨x,hx,e⟩
   ·left;unfold Lt;omega
   ·rcases List.mem_append.1 hx with hx | hx
    ·exact .inl (S.lt hx e)
    ·rw [List.mem_singleton.1 hx] at e;exact .inr e
 ·rcases List.mem_append.1 hd with hd | hd
  ·exact S.new d hd k e
  ·rw [List.mem_singleton.1 hd] at e;have:=hb k e
   omega
 ·refine List.pairwise_append.2 ⟨S.sep,List.pairwise_singleton _ _,fun x hx y hy k e1 e2=>?_⟩;rw [List.mem_singleton.1 hy] at e2;have:=hb k e2
  have:=S.lt hx e1
  omega
theorem Mem.new' (S:Mem w0 w cs)(cells:Array Value)(T:TypeId):Mem w0 (w.alloc (.cells cells T)) (cs++[.loc w.heap.size cells T]) :=
 S.call ((Below.refl _ _).alloc (Nat.le_refl _) _) _ (LV.new w w.heap.size cells T rfl) (fun k e=>by cases e;exact Nat.le_refl _)
theorem Mem.newAt (S:Mem w0 w cs)(cells:Array Value)(T:TypeId)(X:Nat)(hX:X=w.heap.size):Mem w0 (w.alloc (.cells cells T)) (cs++[.loc X cells T]):=by subst hX;exact S.new' cells T
theorem Mem.nil {α:Type}(S:Mem w0 w cs)(r:Rep α)(B E:Nat):Mem w0 w (cs++[.own r B E (.slice none 0 0) []]) :=
 S.call (Below.refl _ _) (.own r B E (.slice none 0 0) []) (Own.nil r _ B E w) (fun k e=>by cases e)
theorem Mem.apart (S:Mem w0 w cs){i j:Nat}{c d:Chunk}(hi:cs[i]? =some c)(hj:cs[j]? =some d)(hij:j≠i){k:Nat}(e:c.blk=some k):d.blk≠some k:=by
 have hsep:=List.pairwise_iff_getElem.1 S.sep;obtain ⟨hi',rfl⟩:=List.getElem?_eq_some_iff.1 hi;obtain ⟨hj',rfl⟩:=List.getElem?_eq_some_iff.1 hj;rcases Nat.lt_or_gt_of_ne hij with h | h
 ·exact fun e2=>hsep j i hj' hi' h k e2 e
 ·exact hsep i j hi' hj' h k e
theorem Mem.upd (S:Mem w0 w cs)(i:Nat){c:Chunk}(hi:cs[i]? =some c)(c':Chunk)(hk:SKN (fun k=>c.blk=some k) w w')(hg:Below w0.heap.size w0 w')(hnew:∀ k,c'.blk=some k→c.blk=some k∨w.heap.size≤k)(hok:c'.ok (Mut w0.heap.size (cs.set i c')) w'):Mem w0 w' (cs.set i c'):=by
 have hsz:=S.b.size;have hc:=List.mem_of_getElem? hi;have hmem:∀ d∈cs.set i c',d=c'∨∃ j,j≠i∧cs[j]? =some d:=fun d hd=>mem_set_cases hd;refine ⟨hg,fun d hd=>?_,fun d hd k e=>?_,?_⟩
 ·rcases hmem d hd with rfl | ⟨j,hj,hdj⟩
  ·exact hok
  ·have hdm:=List.mem_of_getElem? hdj;have h1:=d.mono (M':=fun k=>Mut w0.heap.size cs k∨Mut w0.heap.size (cs.set i c') k) (fun k hk e=>?_) (S.ok d hdm)
   ·have h2:=d.keep hk (fun k e=>.inl (.inr ⟨c,hc,e⟩)) (fun k e1 e2=>S.apart hi hdj hj e2 e1) h1;exact d.mono (fun k _ e=>.inl (.inr e)) h2
   ·rcases e with e | e
    ·exact .inl e
    ·rcases e with e | ⟨x,hx,e⟩
     ·exact .inl (.inl e)
     ·rcases hmem x hx with rfl | ⟨j',_,hx'⟩
      ·rcases hnew k e with e | e
       ·exact .inl (.inr ⟨c,hc,e⟩)
       ·omega
      ·exact .inl (.inr ⟨x,List.mem_of_getElem? hx',e⟩)
 ·rcases hmem d hd with rfl | ⟨j,hj,hdj⟩
  ·rcases hnew k e with e | e
   ·exact S.new c hc k e
   ·omega
  ·exact S.new d (List.mem_of_getElem? hdj) k e
 ·refine List.pairwise_iff_getElem.2 fun p q hp hq hpq k e1 e2=>?_;have e1':(cs.set i c')[p]? =some ((cs.set i c')[p]):=List.getElem?_eq_getElem hp;have e2':(cs.set i c')[q]? =some ((cs.set i c')[q]):=List.getElem?_eq_getElem hq;rw [List.length_set] at hp hq;rw [List.getElem_set] at e1 e2;have hlt:∀ j (hj:j < cs.length),cs[j].blk=some k→k < w.heap.size:=fun j hj e=>S.lt (List.getElem_mem hj) e;split at e1 <;> split at e2
  ·omega
  ·rename_i h1 h2;subst h1;rcases hnew k e1 with e | e
   ·exact S.apart hi (List.getElem?_eq_getElem hq) (fun h=>h2 h.symm) e e2
   ·have:=hlt q hq e2;omega
  ·rename_i h1 h2;subst h2;rcases hnew k e2 with e | e
   ·exact S.apart hi (List.getElem?_eq_getElem hp) (fun h=>h1 h.symm) e e1
   ·have:=hlt p hp e1;omega
  ·exact List.pairwise_iff_getElem.1 S.sep p q hp hq hpq k e1 e2
theorem Mem.lv (S:Mem w0 w cs)(i:Nat){X:Nat}{cells:Array Value}{T:TypeId}(hi:cs[i]? =some (.loc X cells T)):LV w X cells T:=S.ok _ (List.mem_of_getElem? hi)
theorem Mem.ge (S:Mem w0 w cs)(i:Nat){X:Nat}{cells:Array Value}{T:TypeId}(hi:cs[i]? =some (.loc X cells T)):w0.heap.size≤X∧X < w.heap.size:=⟨S.new _ (List.mem_of_getElem? hi) X rfl,(S.lv i hi).lt⟩
theorem Mem.set (S:Mem w0 w cs)(i j:Nat)(u:Value){X:Nat}{cells:Array Value}{T:TypeId}(hi:cs[i]? =some (.loc X cells T)):Mem w0 (w.setCell ⟨X,j,none⟩ u) (cs.set i (.loc X (cells.setIfInBounds j u) T)):=by
 have h1:=S.ge i hi;refine S.upd i hi _ ⟨by simp [World.setCell],fun k _ hn=>Below.heap_setCell _ _ _ _ (fun e=>hn (by rw [e];rfl))⟩ (S.b.setCell (p:=⟨X,j,none⟩) h1.1 u) (fun k e=>.inl e) ?_;exact (S.lv i hi).set j u _ rfl
theorem Mem.ow {α:Type}{r:Rep α}{B E:Nat}{v:Value}{xs:List α}(S:Mem w0 w cs)(i:Nat)(hi:cs[i]? =some (.own r B E v xs)):Own r (Mut w0.heap.size cs) B E w v xs:=S.ok _ (List.mem_of_getElem? hi)
theorem Mem.slc {α:Type}{r:Rep α}{A:Option Addr}{xs:List α}(S:Mem w0 w cs)(i:Nat)(hi:cs[i]? =some (.sl r A xs)):Sl r (Mut w0.heap.size cs) w A xs:=S.ok _ (List.mem_of_getElem? hi)
theorem Mem.del (S:Mem w0 w cs)(i:Nat):Mem w0 w (cs.eraseIdx i):=by
 have hs:=List.eraseIdx_sublist cs i;refine ⟨S.b,fun c hc=>c.mono (fun k _ e=>?_) (S.ok c (hs.subset hc)),fun c hc=>S.new c (hs.subset hc),S.sep.sublist hs⟩;rcases e with e | ⟨x,hx,e⟩
 ·exact .inl (.inl e)
 ·exact .inl (.inr ⟨x,hs.subset hx,e⟩)
theorem Mem.frz {α:Type}{r:Rep α}{B E:Nat}{v:Value}{xs:List α}(S:Mem w0 w cs)(i:Nat)(hi:cs[i]? =some (.own r B E v xs)):∃ A c,v=.slice A xs.length c∧Mem w0 w (cs.set i (.sl r A xs)):=by
 have ho:=S.ow i hi;obtain ⟨A,c,e⟩:=ho.len;refine ⟨A,c,e,S.upd i hi _ ⟨Nat.le_refl _,fun _ _ _=>rfl⟩ S.b (fun k e=>by cases e) ?_⟩;have hnm:∀ k,v.ownBlock=some k→¬ Mut w0.heap.size (cs.set i (.sl r A xs)) k:=fun k ek hm=>by
  rcases hm with hm | ⟨x,hx,ex⟩
  ·have:=S.new _ (List.mem_of_getElem? hi) k ek;omega
  ·rcases mem_set_cases hx with rfl | ⟨j,hj,hx⟩
   ·cases ex
   ·exact S.apart hi hx hj ek ex
 have hmm:∀ k,Mut w0.heap.size (cs.set i (.sl r A xs)) k→Mut w0.heap.size cs k:=fun k hm=>by
  rcases hm with hm | ⟨x,hx,ex⟩
  ·exact .inl hm
  ·rcases mem_set_cases hx with rfl | ⟨j,hj,hx⟩
   ·cases ex
   ·exact .inr ⟨x,List.mem_of_getElem? hx,ex⟩
 obtain ⟨ls,hl,hr,hown⟩:=ho;have hlen:∀ l∈ls,l.length=r.size:=fun l hm=>by
  obtain ⟨i,hi,e⟩:=List.getElem_of_mem hm;exact r.len (hr i (xs[i]'(by omega)) l (by simp) (by rw [List.getElem?_eq_getElem hi,e]))
 rcases hown.2 with ⟨rfl,h0⟩ | ⟨g,cap,cur,rfl,hB,hg,_,_,_,_⟩
 ·rw [List.length_eq_zero_iff.1 h0];exact Sl.nil
 ·cases e;intro j x hx;have hj:j < ls.length:=by rw [hl];exact lt_of_get hx
  refine ⟨g,0,ls[j],rfl,(hown.lt g rfl).2,hnm g rfl,r.mono (fun k _ h=>.inl (hmm k h)) (hr j x _ hx (List.getElem?_eq_getElem hj)),fun p u hu=>?_⟩;have:=hown.cells (g:=g) rfl _ u (flatten_at hlen j p _ u (List.getElem?_eq_getElem hj) hu)
  rw [add_at] at this;rw [Nat.add_assoc];exact this
end
section
variable {ops:Array Oper} {rest:List Oper} {o:Oper} {a:Act} {Q:Exit→Act→World→Prop}
theorem Mem.app {α:Type}{r:Rep α}{w0 w:World}{cs:List Chunk}(S:Mem w0 w cs)(i:Nat){B E:Nat}{v:Value}{xs:List α}(hi:cs[i]? =some (.own r B E v xs)){T bytes:Nat}{z:Value}(ty:STy T E r.size bytes z){arr:Array Value}
  (hgd:o.guard=none) (s x:Operand) (ho:o.op=.call { callee:=.builtin .append,args:=#[s,x],argTypes:=#[T,T] }) (y:α) (c:Nat) (hs:a.eval s=v) (hx:a.eval x=.slice (some ⟨w.heap.size,0,none⟩) 1 c)
  (hy:r.rel (Mut w0.heap.size cs) w y arr.toList) (h1:∀ u∈arr.toList,u.oneCell'=true) (hB:B≤w.heap.size) (hlen:xs.length≤100000000) (hby:bytes≤1000)
  (h:∀ v' w',Mem w0 w' (cs.set i (.own r B E v' (xs++[y])))→wpList Tryz.prog ops Q rest (a.put o.dst v') w'):wpList Tryz.prog ops Q (o::rest) a (w.alloc (.cells arr E)):=by
 have hown:=S.ow i hi;obtain ⟨ls,hl,hr,ho2⟩:=hown;have hsz:arr.toList.length=r.size:=r.len hy;obtain ⟨i0,hi0,hz0,hz1,hz2⟩:=info_parts ty.info;have hnews:∀ j u,arr.toList[j]? =some u→(w.alloc (.cells arr E)).cell? ((⟨w.heap.size,0,none⟩:Addr).add j)=some u:=by
  intro j u hj;rw [add_at,World.cell?_alloc_at _ _ _ _ rfl];simpa using hj
 have hb3:(xs.length + 1) * bytes≤140737488355328:=by
  have:=Nat.mul_le_mul (show xs.length + 1≤100000001 by omega) hby
  omega
 have h63:xs.length + 1≤maxLen:=by unfold maxLen;omega
 obtain ⟨v',w',hrun,g1,g2,_⟩:=run_append_own (P:=Tryz.prog) (w.alloc (.cells arr E)) B T o.type E i0 z r.size bytes ty.under hi0 hz0 hz1 hz2 ty.zsize ty.pos _ xs.length _ (ho2.alloc _) ⟨w.heap.size,0,none⟩ 1 c arr.toList (by omega) hnews h1 h63 hb3 (by simp;omega);have hwh:=run_append_where (P:=Tryz.prog) (w.alloc (.cells arr E)) B T o.type E i0 z r.size bytes ty.under hi0 hz0 hz1 hz2 ty.zsize ty.pos _ xs.length _ (ho2.alloc _) ⟨w.heap.size,0,none⟩ 1 c arr.toList (by omega) hnews h1 h63 hb3 hrun;have hg:w.grownBy w' v.ownBlock:=⟨g2.os,g2.tape,g2.output,by have:=g2.size;simp at this;omega,fun k hk hn=>by rw [g2.block k (by simp;omega) hn];exact Below.heap_alloc _ _ _ hk⟩;have hbl:Below w0.heap.size w w':=(Below.refl _ w).grown hg S.b.size (fun k hk=>S.new _ (List.mem_of_getElem? hi) k hk);have hskn:SKN (fun k=>v.ownBlock=some k) w w':=⟨hg.size,fun k hk hn=>hg.block k hk (fun e=>hn e.symm)⟩;refine wpList_plain hgd fun _ hK=>?_;unfold Oper.wp execOp;simp only [ho,resolve,invoke,builtin,Sem.run_bind,Sem.run_pure,Result.andThen_ok,List.map_toArray,List.map_cons,List.map_nil,hs,hx,hrun];refine hK _ _ (h v' w' (S.upd i hi _ hskn (S.b.trans hbl) (fun k e=>?_) ?_))
 ·rcases hwh k e with e | e
  ·exact .inl e
  ·right;simp at e;omega
 ·have hc:=List.mem_of_getElem? hi;have up:∀ x l,r.rel (NOr (Mut w0.heap.size cs) v) w x l→r.rel (NOr (Mut w0.heap.size (cs.set i (.own r B E v' (xs++[y])))) v') w' x l:=fun x l hx=>by
   have h1:=r.mono (M:=fun k=>NOr (Mut w0.heap.size cs) v k∨NOr (Mut w0.heap.size (cs.set i (.own r B E v' (xs++[y])))) v' k) (fun k hk e=>?_) hx
   ·exact r.mono (fun k _ e=>.inr e) (r.keep (hskn.mono fun k e=>.inl (.inr e)) h1)
   ·have nw:v'.ownBlock=some k→NOr (Mut w0.heap.size cs) v k:=fun e=>by
     rcases hwh k e with e | e
     ·exact .inr e
     ·simp at e;omega
    rcases e with e | e | e
    ·exact e
    ·rcases e with e | ⟨q,hq,e⟩
     ·exact .inl (.inl e)
     ·rcases mem_set_cases hq with rfl | ⟨j,_,hq⟩
      ·exact nw e
      ·exact .inl (.inr ⟨q,List.mem_of_getElem? hq,e⟩)
    ·exact nw e
  refine ⟨ls++[arr.toList],by simp [hl],fun j x l e1 e2=>?_,?_⟩
  ·rcases Nat.lt_or_ge j xs.length with hj | hj
   ·rw [List.getElem?_append_left hj] at e1;rw [List.getElem?_append_left (by omega)] at e2;exact up x l (hr j x l e1 e2)
   ·rw [List.getElem?_append_right hj] at e1;rw [List.getElem?_append_right (by omega),hl] at e2;cases hk:j - xs.length with
    | zero =>
     rw [hk] at e1 e2;simp at e1 e2;subst e1 e2;refine up y _ (r.mono (fun k _ e=>?_) hy);rcases e with e | e
     ·exact e
     ·exact .inr ⟨_,hc,e⟩
    | succ k=>rw [hk] at e1;simp at e1
  ·rw [List.length_append,List.flatten_append];simpa using g1
end
theorem Mem.put {α:Type}{r:Rep α}{f:α→List Value}(hf:r.Flat f){w0 w:World}{cs:List Chunk}(S:Mem w0 w cs)(i:Nat){B E g n cap:Nat}{xs:List α}(hi:cs[i]? =some (.own r B E (.slice (some ⟨g,0,none⟩) n cap) xs))(hn:n=xs.length)(p:Nat)(x x':α)(hx:xs[p]? =some x)(j:Nat)(hj:j < r.size)(u:Value)(hu:f x'=(f x).set j u) :
  Mem w0 (w.setCell ⟨g,p * r.size + j,none⟩ u) (cs.set i (.own r B E (.slice (some ⟨g,0,none⟩) n cap) (xs.set p x'))):=by
 have hg0:=S.new _ (List.mem_of_getElem? hi) g rfl;refine S.upd i hi _ ⟨by simp [World.setCell],fun k _ hne=>Below.heap_setCell _ _ _ _ (fun e=>hne (by rw [e];rfl))⟩ (S.b.setCell (p:=⟨g,_,none⟩) hg0 u) (fun k e=>.inl e) ?_;have:=(Own.put hf (S.ow i hi) hn p x x' hx j hj u hu)
 refine Own.monoD (fun k _ e=>?_) this;rcases e with e | ⟨q,hq,e⟩
 ·exact .inl (.inl e)
 ·rcases mem_set_cases hq with rfl | ⟨k',_,hq⟩
  ·exact .inr e
  ·exact .inl (.inr ⟨q,List.mem_of_getElem? hq,e⟩)
theorem Mem.callN {w0 w w':World}{cs:List Chunk}(S:Mem w0 w cs)(g:Below w.heap.size w w')(ds:List Chunk)(hok:∀ d∈ds,d.ok (fun k=>k < w.heap.size∨∃ e∈ds,e.blk=some k) w')(hb:∀ d∈ds,∀ k,d.blk=some k→w.heap.size≤k)
  (hsep:ds.Pairwise fun c d=>∀ k,c.blk=some k→d.blk≠some k):Mem w0 w' (cs++ds):=by
 have hsz:=S.b.size;refine ⟨S.b.trans (g.mono S.b.size),fun d hd=>?_,fun d hd k e=>?_,?_⟩
 ·rcases List.mem_append.1 hd with hd | hd
  ·have h1:=d.mono (M':=Mut w0.heap.size (cs++ds)) (fun k hk e=>?_) (S.ok d hd)
   ·exact d.keep (SKN.ofBelow (N:=fun _=>False) g) (fun _ e=>e.elim) (fun _ _ e=>e) h1
   ·rcases e with e | ⟨x,hx,e⟩
    ·exact .inl (.inl e)
    ·rcases List.mem_append.1 hx with hx | hx
     ·exact .inl (.inr ⟨x,hx,e⟩)
     ·have:=hb x hx k e
      omega
  ·refine d.mono (fun k hk e=>?_) (hok d hd);rcases e with e | ⟨x,hx,e⟩
   ·left;left;omega
   ·rcases List.mem_append.1 hx with hx | hx
    ·exact .inl (.inl (S.lt hx e))
    ·exact .inl (.inr ⟨x,hx,e⟩)
 ·rcases List.mem_append.1 hd with hd | hd
  ·exact S.new d hd k e
  ·have:=hb d hd k e
   omega
 ·refine List.pairwise_append.2 ⟨S.sep,hsep,fun x hx y hy k e1 e2=>?_⟩;have:=hb y hy k e2
  have:=S.lt hx e1
  omega
theorem Mem.perm {w0 w:World}{cs ds:List Chunk}(S:Mem w0 w cs)(h:cs.Perm ds):Mem w0 w ds:=by
 refine ⟨S.b,fun c hc=>c.mono (fun k _ e=>.inl ?_) (S.ok c (h.mem_iff.2 hc)),fun c hc=>S.new c (h.mem_iff.2 hc),pairwise_perm h S.sep⟩;rcases e with e | ⟨x,hx,e⟩
 ·exact .inl e
 ·exact .inr ⟨x,h.mem_iff.2 hx,e⟩
theorem Mem.join {w0 w w':World}{cs ds:List Chunk}(S:Mem w0 w cs)(T:Mem w w' ds):Mem w0 w' (cs++ds) :=
 S.callN T.b ds (fun d hd=>T.ok d hd) (fun d hd=>T.new d hd) T.sep
theorem Mem.front {w0 w:World}{cs:List Chunk}{c:Chunk}(S:Mem w0 w (cs++[c])):Mem w0 w (c::cs):=S.perm List.perm_append_comm
end
end Go.Proofs.YtmkkppknaikjjaaGreatDoor
