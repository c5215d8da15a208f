/- Several texts in one: ZoneLaw, Zone, Odd, GenZone, Clock. -/
import Derived.Test.YtmkkppknaikjjaaGreatDoorPixW
import Derived.Test.YtmkkppknaikjjaaGreatDoorPixB
import Derived.Test.YtmkkppknaikjjaaGreatDoorPixM
import Derived.WalkLawsBesides
import Derived.OneCell
import Derived.RangeFuncNested
import Derived.RangeFuncBound
import Derived.RangeFuncCalls
import Derived.RangeFuncLeaves
import Derived.RangeFuncBox
import Derived.Shelf.Abstract
import Derived.Shelf.RegionOpen
import Derived.WalkKit
import Derived.OwnWalkIn
import Derived.TacticsInMore
import Derived.LoopNIn
import Derived.LoopIn
/- The plain law of zones: what clocks show, and when they first show a minute. No program in sight. -/
namespace Go.Proofs.YtmkkppknaikjjaaGreatDoor
section
structure Sft where
 at':Int
 off:Int
structure GoodZ (xs:List Sft):Prop where
 ne:1≤xs.length
 len:xs.length≤100
 rng:∀ s∈xs,(0≤s.at'∧s.at'≤4321439)∧(-720≤s.off∧s.off≤840)
 zero:∀ s:Sft,xs[0]? =some s→s.at'=0
 rise:∀ (i j:Nat) (s t:Sft),i < j→xs[i]? =some s→xs[j]? =some t→s.at' < t.at'
end
section
open Go.RowKit
def Sft.cells (s:Sft):List Value:=[.int .i64 s.at',.int .i64 s.off]
def Sft.small (s:Sft):Prop:=-10000000000000≤s.at'∧s.at'≤10000000000000
end
section
open Go.RowKit
set_option maxHeartbeats 1000000 in
theorem odd_any (b m:Nat)(lo hi:Int)(w:World)(hs:Strm b m w)(h:lo≤hi)(hlo:-1000000000000≤lo)(hhi:hi≤1000000000000)(hm:m≤100000000000) :
  Calls Tryz.prog 50 #[.pointer (some ⟨b,0,none⟩),.int .i64 lo,.int .i64 hi] w (DrawsIn b (m + 2) (-1099511627776) 1099511627776 w):=by
 have g0:=G.start hs;clear hs;go_enter Tryz.func50,Tryz.ntmps50
 go_wp2_with fail
 refine (flip_any b m _ _ g0.s (by omega) (by omega) (by omega)).mono ?_;rintro e w1 ⟨r,rfl,hk_w1,hs_w1⟩;have g1:=g0.step hk_w1 hs_w1;clear hk_w1 hs_w1 g0;cases r
 ·go_wp2_with fail
  refine (range_any b (m + 1) _ _ _ g1.s (by omega) (by omega) (by omega) (by omega)).mono ?_;rintro e w2 ⟨n,n_lo,n_hi,rfl,hk_w2,hs_w2⟩;have g2:=g1.step hk_w2 hs_w2;go_wp2_with fail
  go_ret;exact ⟨n,by omega,by omega,rfl,g2.k,g2.s⟩
 ·go_wp2_with fail
  refine (pick_le b _ _ _ (-1099511627776) 1099511627776 g1.s (by simp) (by simp) (by repeat (first | exact intsIn_nil | refine intsIn_cons (by omega) ?_)) (by simp) (by simp) (by omega)).mono ?_;rintro e w2 ⟨n,n_lo,n_hi,rfl,hk_w2,hs_w2⟩;have g2:=g1.step hk_w2 hs_w2;go_wp2_with fail
  go_ret;exact ⟨n,by omega,by omega,rfl,g2.k,g2.s⟩
end
section
open Go.RowKit
section
variable {α:Type} {r:Rep α} {N:Nat→Prop} {B E:Nat} {w:World} {v:Value} {xs:List α}
theorem Own.base {B':Nat}(h:Own r N B E w v xs)(hb:B'≤B):Own r N B' E w v xs:=by
 obtain ⟨ls,h1,h2,ho⟩:=h;refine ⟨ls,h1,h2,ho.1,?_⟩;rcases ho.2 with h0 | ⟨g,cap,cur,e,hB,hrest⟩
 ·exact .inl h0
 ·exact .inr ⟨g,cap,cur,e,by omega,hrest⟩
end
section
variable {ops:Array Oper} {rest:List Oper} {o:Oper} {a:Act} {Q:Exit→Act→World→Prop}
end
end
section
open Go.RowKit Go.Shelf
attribute [local go_sem] Oper.semAt_some
def back (xs:List Sft)(k:Nat):List (Nat×Sft):=(List.range k).map fun j=>(xs.length - 1 - j,(xs[xs.length - 1 - j]?).getD ⟨0,0⟩)
theorem lv_kept {A B:World}{row:Option Nat}{X:Nat}{cs:Array Value}{T:TypeId}(h:LV A X cs T)(hg:A.grownBy B row)(hr:∀ r,row=some r→∃ o:Obj,A.heap[r]? =some o∧o.isCells=false):LV B X cs T:=by
 refine (hg.block X h.lt (fun e=>?_)).trans h;obtain ⟨o,ho,hc⟩:=hr X e.symm;unfold LV at h;rw [h] at ho;cases ho;cases hc
end
end Go.Proofs.YtmkkppknaikjjaaGreatDoor
