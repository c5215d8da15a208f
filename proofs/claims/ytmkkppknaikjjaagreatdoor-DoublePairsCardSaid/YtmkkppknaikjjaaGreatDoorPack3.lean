/- Several texts in one: RTop, RecLaw. -/
import Derived.Test.YtmkkppknaikjjaaGreatDoorPack2
/- handref2.RecordOf and handref2.SourcesOf. -/
open List renaming getElem?_eq_getElem→Z8, mem_of_getElem?→Z7, mem_cons_of_mem→Zq, take_length→Zp, flatMap_cons→Y5, mem_cons_self→Y2, filter_cons→YX, range→YW
open Nat renaming le_refl→Z5, le_trans→ZE
open Go.Lib renaming compareInt→ZL
open Bool renaming false_eq_true→YP
namespace Go.Proofs.YtmkkppknaikjjaaGreatDoor
section
open Go Go.RowKit
theorem WW {α β:Type}(f:α→Bool)(h:α→List β):∀ l:List α,(l.filter f).flatMap h=l.flatMap (fun i=>if f i=true then h i else [])
 | []=>rfl
 | a::r=>by
  rw [YX,Y5,← WW f h r];split
  ·rw [Y5]
  ·rfl
theorem WX {α β:Type}(g:α→List β)(ts:List α):∀ k,k≤ts.length→(ts.take k).flatMap g=(YW k).flatMap (fun i=>(ts[i]?.map g).getD [])
 | 0,_=>by simp
 | k + 1,h=>by
  obtain ⟨t,ht⟩:∃ t,ts[k]? =some t:=⟨_,Z8 (by omega)⟩;rw [take_snoc ht,List.flatMap_append,WX g ts k (by omega),List.range_succ,List.flatMap_append,List.flatMap_singleton,List.flatMap_singleton,ht];rfl
theorem WY {α β:Type}{f g:α→List β}:∀ {l:List α},(∀ x∈l,f x=g x)→l.flatMap f=l.flatMap g
 | [],_=>rfl
 | a::r,h=>by
  rw [Y5,Y5,h a (Y2 ..),WY (fun x hx=>h x (Zq _ hx))]
theorem adJ {ts:List ak}(hu:BN ts)(cc:Nat→Nat)(hd:Nat):zo ts ((partAt cc ts.length hd).map (jQ ts))=fH ts (partAt cc ts.length hd):=by
 have h1:=WX (nI ((partAt cc ts.length hd).map (jQ ts))) ts ts.length (Z5 _);rw [Zp] at h1;show ts.flatMap _=(partAt cc ts.length hd).flatMap _;rw [h1]
 conv=>rhs;rw [show partAt cc ts.length hd=(YW ts.length).filter (fun k=>cc k==hd) from rfl]
 rw [WW];refine WY (fun i hi=>?_);have hil:=List.mem_range.1 hi;obtain ⟨t,ht⟩:∃ t,ts[i]? =some t:=⟨_,Z8 hil⟩;rw [ht];show nI _ t=if _ then wM t else [];unfold nI;have hno:jQ ts i=t.no:=by unfold jQ;rw [ht]
 have e:((partAt cc ts.length hd).map (jQ ts)).contains t.no=true ↔ (cc i==hd)=true:=by
  rw [List.contains_iff_mem,List.mem_map];constructor
  ·rintro ⟨j,hj,hjn⟩;obtain ⟨h2,h3⟩:=List.mem_filter.1 hj;have h4:j=i:=hu.inj (List.mem_range.1 h2) hil (by rw [hjn,hno]);subst h4;exact h3
  ·intro h;exact ⟨i,List.mem_filter.2 ⟨hi,h⟩,hno⟩
 by_cases h:(cc i==hd)=true
 ·rw [if_pos (e.2 h),if_pos h]
 ·rw [if_neg (fun h2=>h (e.1 h2)),if_neg h]
end
section
open Go Go.RowKit
def Iu (v:Vt):Prop:=(v.k≠1→v.t=⟨#[]⟩)∧v.t.size≤200∧-1000000000000≤v.n∧v.n≤1000000000000
theorem aef {k n:Int}{t:ByteArray}(h:jH k t n=0):Iu ⟨k,t,n⟩:=by
 have hs:=WZ h;have hnil:t.toList=[]→t=⟨#[]⟩:=fun e=>by
  rw [toList_nil_iff_emptyBytes] at e;rw [e];rfl
 refine ⟨fun hk=>?_,hs,?_⟩
 ·have hk:¬ k=1:=hk;unfold jH at h;rw [if_neg hk] at h;repeat' split at h
  all_goals first
   | (cases h;done)
   | (refine hnil ?_;simp_all;done)
 ·show -1000000000000≤n∧n≤1000000000000;unfold jH at h;repeat' split at h
  all_goals first
   | (cases h;done)
   | omega
theorem Xa:∀ (l:List aQ) (p:Option ByteArray),kZ p l=0→∀ f∈l,Iu ⟨f.kind,f.text,f.num⟩
 | [],_,_=>fun _ h=>by cases h
 | x::r,p,h=>by
  rw [kZ] at h;split at h
  ·cases h
  split at h
  ·rename_i h2;exact absurd h h2
  rename_i h2;split at h
  ·cases h
  intro f hf;rcases List.mem_cons.1 hf with rfl | hf
  ·exact aef (Classical.not_not.1 h2)
  ·exact Xa r _ h f hf
theorem aeg {t:ak}{last:Int}(h:gJ t last=0):nM t.aB=0:=by
 unfold gJ mQ at h;repeat' split at h
 all_goals first
  | omega
  | exact h
theorem Xb:∀ {l:List ak} {last:Int},lT last l=0→∀ t∈l,nM t.aB=0
 | [],_,_=>fun _ h=>by cases h
 | t::r,last,h=>by
  rw [lT] at h;by_cases h1:gJ t last=0
  ·rw [if_neg (by simpa using h1)] at h;intro u hu;rcases List.mem_cons.1 hu with rfl | hu
   ·exact aeg h1
   ·exact Xb h u hu
  ·rw [if_pos h1] at h;exact absurd h h1
theorem Xc {ts:List ak}(h:iy ts=0):(∀ t∈ts,t.aB.length≤30)∧∀ t∈ts,∀ f∈t.aB,Iu ⟨f.kind,f.text,f.num⟩:=by
 have h1:=Xb (Qh h);refine ⟨fun t ht=>(aeh (h1 t ht)).1,fun t ht f hf=>?_⟩;have h2:=h1 t ht;unfold nM at h2;split at h2
 ·cases h2
 ·exact Xa _ _ h2 f hf
theorem adw {ts:List ak}(h:iy ts=0):BO ts:=by
 obtain ⟨h1,h2⟩:=Xc h;refine ⟨fun t ht=>ZE (h1 t ht) (by decide),fun t ht f hf=>?_⟩;obtain ⟨_,h3,h4,h5⟩:=h2 t ht f hf;have h3:f.text.size≤200:=h3;have h4:-1000000000000≤f.num:=h4;have h5:f.num≤1000000000000:=h5;exact ⟨by omega,by omega,by omega⟩
theorem Xd {ts:List ak}(h:iy ts=0){at':List Nat}{nm:ByteArray}:∀ x∈selC nm (fH ts at'),Iu x.v:=fun x hx=>by
 obtain ⟨p,hp,rfl⟩:=List.mem_map.1 hx;have hp:=(List.mem_filter.1 hp).1;unfold fH at hp;obtain ⟨i,_,hi⟩:=List.mem_flatMap.1 hp;cases ht:ts[i]? with
 | none=>rw [ht] at hi;cases hi
 | some t =>
  rw [ht] at hi;obtain ⟨f,hf,rfl⟩:=List.mem_map.1 (show p∈t.aB.map (tH t) from hi);exact (Xc h).2 t (Z7 ht) f hf
def lg (sc:Tc→Int)(x m:Tc):Bool:=decide (sc m < sc x) || (decide (sc x=sc m) && jS x m)
theorem LX (sc:Tc→Int)(x m:Tc):yc sc x m=lg sc x m:=by
 unfold yc qj lg jS ZL;by_cases h1:sc x < sc m
 ·simp [h1,show ¬ sc m < sc x by omega,show ¬ sc x=sc m by omega]
 ·by_cases h2:sc m < sc x
  ·simp [h1,h2]
  ·have h3:sc x=sc m:=by omega
   simp [h3]
theorem aei (x m:Tc):Qi x m=jS m x:=by
 unfold Qi jS ou ZL;by_cases h1:x.at' < m.at'
 ·simp [h1,show ¬ m.at' < x.at' by omega]
 ·by_cases h2:m.at' < x.at'
  ·simp [h1,h2]
  ·by_cases h3:x.no < m.no
   ·simp [h1,h2,h3,show ¬ m.no < x.no by omega]
   ·by_cases h4:m.no < x.no
    ·simp [h1,h2,h3,h4]
    ·simp [h1,h2,h3,h4]
theorem zH {p q:Tc→Tc→Bool}:∀ (l:List Tc) (m:Tc),(∀ x∈l,∀ y,(y=m∨y∈l)→p x y=q x y)→pick p m l=pick q m l
 | [],_,_=>rfl
 | x::r,m,h=>by
  rw [pick,pick,h x (Y2 ..) m (.inl rfl)];refine zH r _ (fun z hz y hy=>h z (Zq _ hz) y ?_);rcases hy with rfl | hy
  ·split
   ·exact .inr (Y2 ..)
   ·exact .inl rfl
  ·exact .inr (Zq _ hy)
theorem LY {s1 s2:Tc→Int}{x m:Tc}(h1:s1 x=s2 x)(h2:s1 m=s2 m):lg s1 x m=lg s2 x m:=by
 unfold lg;rw [h1,h2]
theorem Iw {sc:Tc→Int}{lo:Int}:∀ (l:List Tc) (m:Tc),jw m=false→lo < sc m→(∀ x∈l,(jw x=true→sc x=lo)∧(jw x=false→lo < sc x))→pick (lg sc) m l=pick (lg sc) m (l.filter (fun x=> !jw x))
 | [],_,_,_,_=>rfl
 | x::r,m,hm,hlo,h=>by
  have hx:=h x (Y2 ..);have hr:=fun y hy=>h y (Zq x hy);cases ht:jw x with
  | true =>
   have hb:lg sc x m=false:=by
    have:=hx.1 ht
    unfold lg;simp [show ¬ sc m < sc x by omega,show ¬ sc x=sc m by omega]
   rw [pick,hb,YX];simp only [ht,Bool.not_true,YP,if_false];exact Iw r m hm hlo hr
  | false =>
   rw [YX];simp only [ht,Bool.not_false,if_true];rw [pick,pick];cases hb:lg sc x m
   ·simp only [YP,if_false];exact Iw r m hm hlo hr
   ·simp only [if_true];exact Iw r x ht (hx.2 ht) hr
theorem Xe {sc:Tc→Int}{lo:Int}:∀ (l:List Tc) (m:Tc),jw m=true→sc m=lo→(∀ x∈l,(jw x=true→sc x=lo)∧(jw x=false→lo < sc x))→pick (lg sc) m l=match l.filter (fun x=> !jw x) with
  | []=>pick jS m l
  | y::t=>pick (lg sc) y t
 | [],_,_,_,_=>rfl
 | x::r,m,hm,hlo,h=>by
  have hx:=h x (Y2 ..);have hr:=fun y hy=>h y (Zq x hy);cases ht:jw x with
  | true =>
   have he:=hx.1 ht;have hb:lg sc x m=jS x m:=by
    unfold lg;simp [show sc x=sc m by omega]
   rw [pick,hb,YX];simp only [ht,Bool.not_true,YP,if_false];have hq:jw (if jS x m=true then x else m)=true∧sc (if jS x m=true then x else m)=lo:=by
    split
    ·exact ⟨ht,he⟩
    ·exact ⟨hm,hlo⟩
   rw [Xe r _ hq.1 hq.2 hr];cases r.filter (fun x=> !jw x) with
   | nil=>rw [pick]
   | cons y t=>rfl
  | false =>
   have he:=hx.2 ht;have hb:lg sc x m=true:=by
    unfold lg;simp [show sc m < sc x by omega]
   rw [pick,hb,YX];simp only [ht,Bool.not_false,if_true];exact Iw r x ht he hr
theorem aej:Lib.runeCount (⟨#[]⟩:ByteArray)=0:=by decide
theorem aek (how:Int)(srcs:List ByteArray)(x0:Tc)(r0:List Tc)(hok:∀ x∈x0::r0,Iu x.v):kT how srcs x0 r0=Cm how srcs x0 r0:=by
 obtain ⟨all,hall⟩:∃ all,x0::r0=all:=⟨_,rfl⟩;have hmem:∀ x,x=x0∨x∈r0→x∈all:=fun x h=>by
  rw [← hall];rcases h with rfl | h
  ·exact Y2 ..
  ·exact Zq _ h
 unfold kT Cm;rw [hall] at hok ⊢;by_cases h2:how=2
 ·rw [if_pos h2];refine zH _ _ (fun x _ y _=>?_);unfold ET;rw [if_pos h2,aei]
 have Iy:∀ x y,ET how srcs all x y=lg (iC how srcs all) x y:=fun x y=>by
  unfold ET lg;rw [if_neg h2]
 rw [if_neg h2];by_cases h3:how=3
 ·rw [if_pos h3];refine zH _ _ (fun x hx y hy=>?_);rw [Iy,LX];have e:∀ z,z∈all→zu z=iC how srcs all z:=fun z hz=>by
   unfold iC;rw [if_pos h3];by_cases hk:z.v.k=1
   ·rw [if_pos hk]
   ·rw [if_neg hk];unfold zu;rw [(hok z hz).1 hk,aej];rfl
  exact LY (e x (hmem x (.inr hx))) (e y (hmem y hy))
 rw [if_neg h3];by_cases h4:how=4
 ·rw [if_pos h4];refine zH _ _ (fun x _ y _=>?_);rw [Iy,LX];have e:∀ z,jR all z=iC how srcs all z:=fun z=>by
   unfold iC;rw [if_neg h3,if_pos h4]
  exact LY (e x) (e y)
 rw [if_neg h4];by_cases h5:how=5
 ·rw [if_pos h5];refine zH _ _ (fun x _ y _=>?_);rw [Iy,LX];have e:∀ z,xU srcs z=iC how srcs all z:=fun z=>by
   unfold iC;rw [if_neg h3,if_neg h4,if_pos h5]
  exact LY (e x) (e y)
 rw [if_neg h5];by_cases jT:how=6∨how=7
 ·rw [if_pos jT];have Xf:∀ z,jw z=true→iC how srcs all z=-1152921504606846976:=fun z hz=>by
   have hk:z.v.k=1:=by simpa [jw] using hz
   unfold iC;rw [if_neg h3,if_neg h4,if_neg h5,if_pos jT,if_pos hk]
  have Qj:∀ z,jw z=false→iC how srcs all z=uK (if how=7 then -1 else 1) z:=fun z hz=>by
   have hk:¬ z.v.k=1:=by simpa [jw] using hz
   unfold iC uK;rw [if_neg h3,if_neg h4,if_neg h5,if_pos jT,if_neg hk];by_cases h7:how=7
   ·rw [if_pos h7,if_pos h7];omega
   ·rw [if_neg h7,if_neg h7];omega
  have hlo:∀ z,z∈all→jw z=false→(-1152921504606846976:Int) < iC how srcs all z:=fun z hz ht=>by
   rw [Qj z ht];have h1:=(hok z hz).2.2;unfold uK;split <;> omega
  have hboth:∀ x∈r0,(jw x=true→iC how srcs all x=-1152921504606846976)∧(jw x=false→(-1152921504606846976:Int) < iC how srcs all x):=fun x hx=>⟨Xf x,hlo x (hmem x (.inr hx))⟩;have hR:pick (ET how srcs all) x0 r0=pick (lg (iC how srcs all)) x0 r0:=zH _ _ (fun x _ y _=>Iy x y);rw [hR];have hnum:∀ (y:Tc) (t:List Tc),(∀ z∈y::t,jw z=false)→pick (yc (uK (if how=7 then -1 else 1))) y t=pick (lg (iC how srcs all)) y t:=fun y t h=>by
   refine zH _ _ (fun x hx z hz=>?_);rw [LX];have hz2:z∈y::t:=by
    rcases hz with rfl | hz
    ·exact Y2 ..
    ·exact Zq _ hz
   exact LY (Qj x (h x (Zq _ hx))).symm (Qj z (h z hz2)).symm
  have Iz:∀ z∈(x0::r0).filter (fun x=> !jw x),jw z=false:=fun z hz=>by
   have:=(List.mem_filter.1 hz).2
   simpa using this
  cases ht:jw x0 with
  | false =>
   have e:(x0::r0).filter (fun x=> !jw x)=x0::r0.filter (fun x=> !jw x):=by
    rw [YX];simp [ht]
   rw [hall] at e;rw [hall,e] at Iz;rw [e];show pick (yc _) x0 _=_;rw [hnum _ _ Iz];exact (Iw r0 x0 ht (hlo x0 (hmem x0 (.inl rfl)) ht) hboth).symm
  | true =>
   have e:(x0::r0).filter (fun x=> !jw x)=r0.filter (fun x=> !jw x):=by
    rw [YX];simp [ht]
   rw [hall] at e;rw [hall,e] at Iz;rw [e,Xe r0 x0 ht (Xf x0 ht) hboth];cases hq:r0.filter (fun x=> !jw x) with
   | nil=>rfl
   | cons y t =>
    rw [hq] at Iz;exact hnum y t Iz
 ·rw [if_neg jT];refine zH _ _ (fun x _ y _=>?_);rw [Iy];have e:∀ z,iC how srcs all z=0:=fun z=>by
   unfold iC;rw [if_neg h3,if_neg h4,if_neg h5,if_neg jT]
  unfold lg;rw [e,e];simp
theorem Vz {r:aP}{ts:List ak}(h:iy ts=0)(at':List Nat):Lm (kM r) (mM r) ts at':=fun nm x0 r0 hs=>by
 unfold kM mM;rw [aek _ _ x0 r0 (fun x hx=>Xd h (at':=at') (nm:=nm) x (by rw [hs];exact hx))]
end
end Go.Proofs.YtmkkppknaikjjaaGreatDoor
