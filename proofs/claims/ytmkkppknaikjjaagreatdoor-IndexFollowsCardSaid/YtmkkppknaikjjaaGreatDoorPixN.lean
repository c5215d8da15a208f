/- Several texts in one: SortInt, EqInt, PsnSml. -/
import Derived.Test.YtmkkppknaikjjaaGreatDoorPixM
import Derived.Test.YtmkkppknaikjjaaGreatDoorShix
import Derived.Test.YtmkkppknaikjjaaGreatDoorPixX
/- Numbers in a slice of the call's own: sorted, and made single. -/
namespace Go.Proofs.YtmkkppknaikjjaaGreatDoor
section
open Go Go.RowKit Go.Sort
theorem Own.holdsI {M:Nat→Prop}{B E g n cap:Nat}{w:World}{xs:List Int}(h:Own rInt M B E w (.slice (some ⟨g,0,none⟩) n cap) xs)(hn:n=xs.length):Holds (Value.int .i64) w g 0 xs.toArray:=fun j hj=>by
 have hj':j < xs.length:=by simpa using hj
 have:=Own.cellP flatInt h hn j xs[j] (List.getElem?_eq_getElem hj') 0 (.int .i64 xs[j]) rfl
 rw [show j * rInt.size + 0=0 + j by simp [rInt,Rep.flat]] at this;rw [getElem!_pos xs.toArray j hj];exact this
theorem putRow_int (w:World)(g:Nat)(ts:List Int):putRow (Value.int .i64) w g 0 ts.toArray=putRowK (fun n:Int=>[Value.int .i64 n]) 1 w g 0 ts.toArray:=by
 unfold putRowK putRow;congr 1
 funext cur
 unfold putCells;congr 1
 funext k v
 rw [size_flatK,Nat.mul_one];by_cases h:0≤k∧k < 0 + ts.toArray.size
 ·rw [if_pos h,if_pos h,get_flatK _ _ _ _ (by simpa using h.2)];simp [Nat.mod_one]
 ·rw [if_neg h,if_neg h]
theorem sortWorld_int (w:World)(g m:Nat)(ts:List Int)(os:Array Obj):grow (putRow (Value.int .i64) (Sort.ahead w m) g 0 ts.toArray) os=sortWorldK (fun n:Int=>[Value.int .i64 n]) 1 w g 0 m ts.toArray os:=by
 unfold sortWorldK;rw [putRow_int]
def srtI (xs:List Int):List Int:=xs.mergeSort fun x y=>decide (x≤y)
theorem srtI_len (xs:List Int):(srtI xs).length=xs.length:=List.length_mergeSort xs
set_option maxRecDepth 100000 in
theorem Mem.sortI {w0 w:World}{cs:List Chunk}(S:Mem w0 w cs)(i:Nat){B E g n cap:Nat}{xs:List Int}(hi:cs[i]? =some (.own rInt B E (.slice (some ⟨g,0,none⟩) n cap) xs))(hn:n=xs.length)(hl:xs.length≤1000000) :
  Calls Tryz.prog 95 #[.slice (some ⟨g,0,none⟩) n cap] w fun e w'=>e=.returned (.tuple #[])∧Mem w0 w' (cs.set i (.own rInt B E (.slice (some ⟨g,0,none⟩) n cap) (srtI xs))):=by
 subst hn;have hH:=(S.ow i hi).holdsI rfl;have hg:=S.lt (List.mem_of_getElem? hi) (k:=g) rfl;refine (Tryz.slices_Sort_int g 0 cap xs w hH hg (by omega)).mono ?_;rintro e w' ⟨rfl,m,os,rfl⟩;refine ⟨rfl,?_⟩;rw [sortWorld_int];exact S.sortedK flatInt (by decide) (fun _=>rfl) i hi (srtI_len xs)
end
section
open Go Go.RowKit
theorem Sl.intAt {N:Nat→Prop}{w:World}{A:Option Addr}{xs:List Int}(h:Sl rInt N w A xs)(h0:xs≠[]):∃ b o,A=some ⟨b,o,none⟩∧∀ j,j < xs.length→w.cell? ⟨b,o + j,none⟩=some (.int .i64 (xs.getD j 0)):=by
 cases xs with
 | nil=>exact absurd rfl h0
 | cons x r =>
  obtain ⟨b,o,l,e,_,_,_,_⟩:=h 0 x rfl;refine ⟨b,o,e,fun j hj=>?_⟩;obtain ⟨b2,o2,l2,e2,_,_,hr,hc⟩:=h j (x::r)[j] (List.getElem?_eq_getElem hj);rw [e] at e2;cases e2;obtain rfl:l2=[.int .i64 (x::r)[j]]:=hr;have:=hc 0 _ rfl
  rw [show o + j * rInt.size + 0=o + j by simp [rInt,Rep.flat]] at this;rw [this,List.getD_eq_getElem?_getD,List.getElem?_eq_getElem hj];rfl
theorem eqInt_any (N:Nat→Prop)(A A2:Option Addr)(xs:List Int)(c c2:Nat)(w:World)(h1:Sl rInt N w A xs)(h2:Sl rInt N w A2 xs)(hl:xs.length≤1000000000) :
  Calls Tryz.prog 107 #[.slice A xs.length c,.slice A2 xs.length c2] w fun e w'=>e=.returned (.bool true)∧Below w.heap.size w w':=by
 by_cases h0:xs=[]
 ·subst h0;refine (Tryz.slices_Equal_int_empty A A2 c 0 c2 w (by decide)).mono ?_;rintro e w' ⟨rfl,rfl⟩;exact ⟨rfl,Below.refl _ _⟩
 ·obtain ⟨b,o,rfl,hc⟩:=h1.intAt h0;obtain ⟨b2,o2,rfl,hc2⟩:=h2.intAt h0;refine (Tryz.slices_Equal_int b o xs.length c b2 o2 xs.length c2 xs xs w (Nat.le_refl _) (Nat.le_refl _) (by omega) (by omega) hc hc2).mono ?_;rintro e w' ⟨rfl,q,rfl⟩;exact ⟨by simp,below_drewN _ _ _⟩
end
section
open Go Go.RowKit
theorem srtId_len (l:List IdV):(srtId l).length≤l.length:=sub_len ((srtId_up l).nodup) (fun x hx=>(srtId_mem l x).1 hx)
theorem psns_rise {r:Rul}{ts:List Tch}{P:List Psn}(hP:IsPsns r ts P):∀ p∈P,RiseI p.ids:=by
 obtain ⟨c,_,rfl⟩:=hP;intro p hp;unfold psns at hp;obtain ⟨i,_,rfl⟩:=List.mem_map.1 hp;exact srtId_up _
end
end Go.Proofs.YtmkkppknaikjjaaGreatDoor
