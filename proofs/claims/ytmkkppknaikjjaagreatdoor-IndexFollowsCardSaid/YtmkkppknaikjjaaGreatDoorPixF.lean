/- Several texts in one: DifRef, DelT, DifTn, DifMut. -/
import Derived.Test.YtmkkppknaikjjaaGreatDoorPixD
import Derived.Test.YtmkkppknaikjjaaGreatDoorPixE
import Derived.Test.YtmkkppknaikjjaaGreatDoorPixU
import Derived.Test.YtmkkppknaikjjaaGreatDoorPixL
import Derived.Test.YtmkkppknaikjjaaGreatDoorPixK
import Derived.Test.YtmkkppknaikjjaaGreatDoorPixQ
import Derived.Test.YtmkkppknaikjjaaGreatDoorPixN
import Derived.Test.YtmkkppknaikjjaaGreatDoorPixY
/- What handref2.DifferOf returns. -/
namespace Go.Proofs.YtmkkppknaikjjaaGreatDoor
section
open Go Go.RowKit
theorem difF_first (P Q:List Psn):firstErr [psnsF P,psnsF Q]=difF P Q:=by
 unfold difF;by_cases h:psnsF P=0
 ·by_cases h2:psnsF Q=0 <;> simp [firstErr,h,h2]
 ·simp [firstErr,h]
theorem difF_zero {P Q:List Psn}(h:difF P Q=0):psnsF P=0∧psnsF Q=0:=by
 unfold difF at h;split at h
 ·rename_i h2;exact absurd h h2
 ·rename_i h2;exact ⟨Decidable.not_not.1 h2,h⟩
theorem psnsGo_ne:∀ {P:List Psn} {S:List Int},psnsGo S P=0→∀ p∈P,p.tch≠[]
 | [],_,_,p,hp=>by cases hp
 | q::r,S,h,p,hp=>by
  rw [psnsGo] at h;split at h
  ·exact absurd h (by assumption)
  ·rename_i h0;rcases List.mem_cons.1 hp with rfl | hp
   ·intro e;apply h0;unfold psnF;split
    ·assumption
    ·rw [if_pos (by rw [e];rfl)];decide
   ·exact psnsGo_ne h p hp
theorem cells_int {N:Nat→Prop}{w:World}{a:Addr}{xs:List Int}(h:Sl rInt N w (some a) xs):∀ j u,(xs.map (fun z=>[Value.int .i64 z])).flatten[j]? =some u→w.cell? (a.add j)=some u:=fun j u hu=>by
 obtain ⟨k,x,r,h1,h2,rfl⟩:=flat_at (f:=fun z:Int=>[Value.int .i64 z]) (n:=1) (fun _=>rfl) xs j u hu;obtain ⟨blk,off,e,_,hc⟩:=h.int k x h1;obtain rfl:a=⟨blk,off,none⟩:=Option.some.inj e;cases r with
 | zero =>
  simp at h2;subst h2;rw [Addr.add_lit];simpa using hc
 | succ r=>simp at h2
theorem df1_any (P:List Psn)(A:Option Addr)(c X:Nat)(w:World)(hX:LV w X #[.slice A P.length c] 61)(hS:Sl rPsn (fun _=>False) w A P)(hP:PsnSm P)(hM:MaxL w) :
  Calls Tryz.prog 89 #[.pointer (some ⟨X,0,none⟩)] w fun e w'=>e=.returned (.int .i64 (psnsF P))∧Below w.heap.size w w':=by
 have Hc:=Lib.hid (refPsns_any _ P A c w hS hP.len (fun p hp=>⟨hP.tch p hp,hP.key p hp⟩) hM);have c0:=hX.all;clear hS hP hM hX;go_enter Tryz.func89,Tryz.ntmps89
 go_wp2_with fail
 refine (Hc.out).mono ?_;rintro e w2 ⟨rfl,hl2⟩;go_wp2_with fail
 go_ret;exact ⟨rfl,hl2⟩
theorem df2_any (P:List Psn)(A:Option Addr)(c X:Nat)(w:World)(hX:LV w X #[.slice A P.length c] 61)(hS:Sl rPsn (fun _=>False) w A P)(hP:PsnSm P)(hM:MaxL w) :
  Calls Tryz.prog 91 #[.pointer (some ⟨X,0,none⟩)] w fun e w'=>e=.returned (.int .i64 (psnsF P))∧Below w.heap.size w w':=by
 have Hc:=Lib.hid (refPsns_any _ P A c w hS hP.len (fun p hp=>⟨hP.tch p hp,hP.key p hp⟩) hM);have c0:=hX.all;clear hS hP hM hX;go_enter Tryz.func91,Tryz.ntmps91
 go_wp2_with fail
 refine (Hc.out).mono ?_;rintro e w2 ⟨rfl,hl2⟩;go_wp2_with fail
 go_ret;exact ⟨rfl,hl2⟩
abbrev zsCs:Array Value:=#[.int .i64 0,.int .i64 0,.string ⟨#[]⟩,.int .i64 0,.string ⟨#[]⟩]
set_option maxHeartbeats 8000000 in
set_option maxRecDepth 100000 in
theorem refDiffer_any (P Q:List Psn)(A B:Option Addr)(ca cb:Nat)(w:World)(hA:Sl rPsn (fun _=>False) w A P)(hB:Sl rPsn (fun _=>False) w B Q)(hP:PsnSm P)(hQ:PsnSm Q)(hl1:P.length≤1000)(hl2:Q.length≤1000)(hM:MaxL w) :
  Calls Tryz.prog 31 #[.slice A P.length ca,.slice B Q.length cb] w (GivesShfE P Q w):=by
 have HA:=Lib.hid (fun w' (h:Below w.heap.size w w')=>hA.keepB h);have HB:=Lib.hid (fun w' (h:Below w.heap.size w w')=>hB.keepB h);have HM:=Lib.hid (fun w' (h:Below w.heap.size w w')=>hM.below h);have HP:=Lib.hid hP;have HQ:=Lib.hid hQ;have Hl1:=Lib.hid hl1;have Hl2:=Lib.hid hl2;clear hA hB hM hP hQ hl1 hl2;obtain ⟨Y,hY⟩:∃ Y,Y=w.heap.size:=⟨_,rfl⟩;have S1:=(Mem.start w).newAt #[.slice A P.length ca] 61 Y hY;have S:Mem w _ [.loc Y #[.slice A P.length ca] 61,.loc (Y + 1) #[.slice B Q.length cb] 61]:=S1.newAt #[.slice B Q.length cb] 61 (Y + 1) (by rw [hY,World.size_alloc]);clear S1;obtain ⟨F,HF⟩:∃ F,Hid (difF P Q=F):=⟨_,Lib.hid rfl⟩;go_enter Tryz.func31,Tryz.ntmps31
 go_upto_region 1 with fail
 rw [← hY];clear hY;generalize (w.alloc (.cells #[.slice A P.length ca] 61)).alloc (.cells #[.slice B Q.length cb] 61)=w1 at *;obtain ⟨Z,hZ⟩:∃ Z,Z=Y + 1:=⟨_,rfl⟩;rw [← hZ] at S ⊢;clear hZ;have HlY:=Lib.hid (S.lv 0 rfl);have HlZ:=Lib.hid (S.lv 1 rfl);have Hb1:=Lib.hid S.b;have hbU:Below w1.heap.size w1 (w1.alloc (.cells #[.func (.func 89) #[] #[.pointer (some ⟨Y,0,none⟩)],.func (.func 91) #[] #[.pointer (some ⟨Z,0,none⟩)]] 153)):=(Below.refl _ _).alloc (Nat.le_refl _) _;have hBU:=Lib.hid hbU;have Hf:=Lib.hid (first_any w1.heap.size 2 [⟨89,#[.pointer (some ⟨Y,0,none⟩)],psnsF P⟩,⟨91,#[.pointer (some ⟨Z,0,none⟩)],psnsF Q⟩] _ rfl (LV.new w1 w1.heap.size #[.func (.func 89) #[] #[.pointer (some ⟨Y,0,none⟩)],.func (.func 91) #[] #[.pointer (some ⟨Z,0,none⟩)]] 153 rfl) (by simp)
  (fun c hc=>by
   rcases List.mem_cons.1 hc with rfl | hc
   ·exact enters_of Tryz.func89 (by kernel_rfl) rfl
   ·rw [List.mem_singleton.1 hc];exact enters_of Tryz.func91 (by kernel_rfl) rfl)
  (fun c' hc w' hw=>by
   have hB1:Below w1.heap.size w1 w':=hBU.out.trans (hw.mono hBU.out.size);have hBw:Below w.heap.size w w':=Hb1.out.trans (hB1.mono Hb1.out.size);rcases List.mem_cons.1 hc with rfl | hc
   ·exact df1_any P A ca Y w' (LV.kb3 HlY.out hB1 HlY.out.lt) (HA.out w' hBw) HP.out (HM.out w' hBw)
   ·rw [List.mem_singleton.1 hc];exact df2_any Q B cb Z w' (LV.kb3 HlZ.out hB1 HlZ.out.lt) (HB.out w' hBw) HQ.out (HM.out w' hBw)))
 rw [show List.map Clo.err [⟨89,#[.pointer (some ⟨Y,0,none⟩)],psnsF P⟩,⟨91,#[.pointer (some ⟨Z,0,none⟩)],psnsF Q⟩]=[psnsF P,psnsF Q] from rfl,difF_first,HF.out] at Hf;clear hbU S;go_wp2_with fail
 refine (Hf.out).mono ?_;rintro e w2 ⟨rfl,hl2⟩;have Hb2:Hid (Below w1.heap.size w1 w2):=hBU.out.trans (hl2.mono hBU.out.size);clear hl2 Hf hBU;by_cases hF:F=0
 ·subst hF;have hz:=difF_zero HF.out;have HaP:=Lib.hid (psnsF_zero hz.1);have HaQ:=Lib.hid (psnsF_zero hz.2);have HnP:=Lib.hid (psnsGo_ne hz.1);have HnQ:=Lib.hid (psnsGo_ne hz.2);have Hw2:Hid (Below w.heap.size w w2):=Hb1.out.trans (Hb2.out.mono Hb1.out.size);have HlY2:=Lib.hid (LV.kb3 HlY.out Hb2.out HlY.out.lt);have HlZ2:=Lib.hid (LV.kb3 HlZ.out Hb2.out HlZ.out.lt);have y0:=HlY2.out.all;have z0:=HlZ2.out.all;clear hz HlY HlZ Hb1 Hb2;have hbV:Below w2.heap.size w2 (w2.alloc (.cells #[.slice A P.length ca,.slice B Q.length cb] 61)):=(Below.refl _ _).alloc (Nat.le_refl _) _;have Hcc:=Lib.hid (concatPsn_any w2.heap.size A B P Q ca cb _ (LV.new w2 w2.heap.size #[.slice A P.length ca,.slice B Q.length cb] 61 rfl) (HA.out _ (Hw2.out.trans (hbV.mono Hw2.out.size))) (HB.out _ (Hw2.out.trans (hbV.mono Hw2.out.size))) Hl1.out Hl2.out);have HbV:=Lib.hid hbV;clear hbV;go_wp2_with fail
  refine (Hcc.out).mono ?_;rintro e wc ⟨C,cc,rfl,hC,hlc⟩;have Hb2c:Hid (Below w2.heap.size w2 wc):=HbV.out.trans (hlc.mono HbV.out.size);have Hwc:Hid (Below w.heap.size w wc):=Hw2.out.trans (Hb2c.out.mono Hw2.out.size);have HYZ:Hid (∀ w',Below wc.heap.size wc w'→LV w' Y #[.slice A P.length ca] 61∧LV w' Z #[.slice B Q.length cb] 61):=fun w' h=>by
   have h2:=Hb2c.out.trans (h.mono Hb2c.out.size);exact ⟨LV.kb3 HlY2.out h2 HlY2.out.lt,LV.kb3 HlZ2.out h2 HlZ2.out.lt⟩
  have HC:=Lib.hid hC;obtain ⟨R,hR⟩:∃ R,P++Q=R:=⟨_,rfl⟩;rw [hR] at HC ⊢;have HR:=Lib.hid hR;have hRl:R.length≤2000:=by rw [← hR,List.length_append];have:=Hl1.out;have:=Hl2.out;omega
  have Hall:Hid ((R.flatMap Psn.tch).length≤800000):=by
   show _≤_;rw [← hR,List.flatMap_append,List.length_append];have:=HP.out.all
   have:=HQ.out.all
   omega
  have Hne:Hid (∀ p∈R,p.tch≠[]):=fun p hp=>by
   rw [← hR] at hp;rcases List.mem_append.1 hp with hp | hp
   ·exact HnP.out p hp
   ·exact HnQ.out p hp
  clear y0 z0 hlc hC hR Hcc HbV Hb2c HnP HnQ HlY2 HlZ2 Hw2;obtain ⟨Bk,hBk⟩:∃ Bk,Bk=wc.heap.size:=⟨_,rfl⟩;have Hb:=Lib.hid hBk;have S0:Mem wc wc [.own rInt Bk 3 (.slice none 0 0) []]:=(Mem.start wc).nil rInt Bk 3;clear hBk;go_wp2_with fail
  go_loopw [8,27] (fun v i wr=>∃ j:Nat,j≤R.length∧i=.int .i64 j∧Mem wc wr [.own rInt Bk 3 v ((R.take j).flatMap Psn.tch)]) (fun _ i _=>R.length - (intOf i).toNat)
  case atStart=>exact ⟨0,Nat.zero_le _,rfl,by rw [List.take_zero];exact S0⟩
  case round =>
   clear S0;obtain ⟨j,hj,rfl,S⟩:=hrel;by_cases hlt:j < R.length
   ·obtain ⟨p,hp⟩:∃ p,R[j]? =some p:=⟨_,List.getElem?_eq_getElem hlt⟩;obtain ⟨b1,o1,At,at',Ai,ai,rfl,hb1,c0,c1,c2,c3,s1,s2⟩:=(HC.out.keepB S.b).psn j p hp;have hpn:=Hne.out p (List.mem_of_getElem? hp);obtain ⟨ad,rfl⟩:∃ ad,At=some ad:=by
     cases At with
     | some ad=>exact ⟨ad,rfl⟩
     | none =>
      exfalso;cases ht:p.tch with
      | nil=>exact hpn ht
      | cons n r =>
       obtain ⟨_,_,e,_⟩:=s1.int 0 n (by rw [ht];rfl);cases e
    have hsn:(R.take (j + 1)).flatMap Psn.tch=(R.take j).flatMap Psn.tch++p.tch:=by rw [take_snoc hp,List.flatMap_append];simp
    have hll:((R.take j).flatMap Psn.tch).length + p.tch.length≤100000000:=by
     have h1:=congrArg List.length hsn;rw [List.length_append] at h1;have h2:((R.take (j + 1)).flatMap Psn.tch).length≤(R.flatMap Psn.tch).length:=by
      conv=>rhs;rw [← List.take_append_drop (j + 1) R]
      rw [List.flatMap_append,List.length_append];omega
     have:=Hall.out
     omega
    have Hsn:=Lib.hid hsn;have Hll:=Lib.hid hll;have Hs1:=Lib.hid (fun w' (h:Below wr.heap.size wr w')=>s1.keepB h);clear hp s1 s2 hpn hsn hll;obtain ⟨U,hU⟩:∃ U,U=wr.heap.size:=⟨_,rfl⟩;have S2:Mem wc _ (.loc U (psCs p (some ad) at' Ai ai) 80::[.own rInt Bk 3 _ ((R.take j).flatMap Psn.tch)]):=(S.newAt (psCs p (some ad) at' Ai ai) 80 U hU).front;have hb2:Below wr.heap.size wr (wr.alloc (.cells (psCs p (some ad) at' Ai ai) 80)):=(Below.refl _ _).alloc (Nat.le_refl _) _;go_upto_region 9 with fail
    rw [← hU];clear hU S c0 c1 c2 c3;generalize wr.alloc (.cells (psCs p (some ad) at' Ai ai) 80)=w11 at *;have v0:=(S2.lv 0 rfl).all;have Hcl:=Lib.hid (cells_int (Hs1.out _ hb2));have hsz:Bk≤w11.heap.size:=by rw [Hb.out];exact S2.b.size
    have HS2:=Lib.hid S2;clear S2 hb2;go_wp2_with (at_builtin;refine HS2.out.appN flatInt 1 rfl tyIntP rfl _ _ rfl p.tch p.tch.length at' rfl rfl ad rfl Hcl.out (fun y _=>oneJ y) (fun _=>rfl) hsz Hll.out (by decide) ?_;intro v5 w5 S5)
    go_roundw
    case rel=>exact ⟨j + 1,by omega,by go_num,by rw [Hsn.out];exact S5.del 0⟩
    case measure=>simp [intOf];omega
   ·obtain rfl:j=R.length:=by omega
    rw [List.take_length] at S;have Hso:=Lib.hid (sortOwnI S 0 rfl (by have:=Hall.out;omega));clear S;go_wp2_with fail
    refine (Hso.out).mono ?_;rintro e w12 ⟨rfl,S⟩;have Hco:=Lib.hid (compOwnI S 0 rfl (by rw [srtI_len];have:=Hall.out;omega));clear S Hso;go_wp2_with fail
    refine (Hco.out).mono ?_;rintro e w13 ⟨v13,rfl,S⟩;obtain ⟨ns,hns⟩:∃ ns,Lib.compact (srtI (R.flatMap Psn.tch))=ns:=⟨_,rfl⟩;have hup:=srtU_is (R.flatMap Psn.tch);have hnl:=compact_len (srtI (R.flatMap Psn.tch));rw [srtI_len] at hnl;rw [hns] at S hup hnl;have hnl2:ns.length≤800000:=by have:=Hall.out;omega
    have HI:Hid (IsShf P Q (ns.filterMap (shfOf P Q))):=shf_ref hup.1 (fun n=>by
     rw [hup.2,← HR.out,List.flatMap_append,List.mem_append];unfold inT;rw [List.mem_flatMap,List.mem_flatMap])
    obtain ⟨A9,c9,rfl,S9⟩:=S.frz 0 rfl;have S10:Mem wc w13 [.own rShf Bk 77 (.slice none 0 0) [],.sl rInt A9 ns]:=(S9.nil rShf Bk 77).front;clear S S9 hns hup hnl Hco;go_wp2_with fail
    go_loopw [11,41] (fun v i wr=>∃ k:Nat,k≤ns.length∧i=.int .i64 k∧Mem wc wr [.own rShf Bk 77 v ((ns.take k).filterMap (shfOf P Q)),.sl rInt A9 ns]) (fun _ i _=>ns.length - (intOf i).toNat)
    case atStart=>exact ⟨0,Nat.zero_le _,rfl,by rw [List.take_zero];exact S10⟩
    case round =>
     clear S10;obtain ⟨k,hk,rfl,S⟩:=hrel;by_cases hlt2:k < ns.length
     ·obtain ⟨n,hn⟩:∃ n,ns[k]? =some n:=⟨_,List.getElem?_eq_getElem hlt2⟩;obtain ⟨b5,o5,rfl,hb5,d0⟩:=(S.slc 1 rfl).int k n hn;obtain ⟨ka,hka⟩:∃ ka,keyIn P n=ka:=⟨_,rfl⟩;obtain ⟨kb,hkb⟩:∃ kb,keyIn Q n=kb:=⟨_,rfl⟩;have Hsn:Hid ((ns.take (k + 1)).filterMap (shfOf P Q)=(ns.take k).filterMap (shfOf P Q)++(if ka≠kb then some (⟨n,ka,kb⟩:Shf) else none).toList):=by
       show _=_;rw [take_snoc hn,List.filterMap_append,List.filterMap_cons];unfold shfOf;rw [hka,hkb];by_cases e:ka=kb <;> simp [e]
      have hxl:((ns.take k).filterMap (shfOf P Q)).length≤100000000:=by
       have h1:=List.length_filterMap_le (shfOf P Q) (ns.take k);rw [List.length_take] at h1;omega
      have HK1:=Lib.hid (fun w' (h:Below wc.heap.size wc w')=>keyIn_any (fun _=>False) P A ca n w' (HA.out w' (Hwc.out.trans (h.mono Hwc.out.size))) HP.out);have HK2:=Lib.hid (fun w' (h:Below wc.heap.size wc w')=>keyIn_any (fun _=>False) Q B cb n w' (HB.out w' (Hwc.out.trans (h.mono Hwc.out.size))) HQ.out);rw [hka] at HK1;rw [hkb] at HK2;obtain ⟨xs,hxs⟩:∃ xs,(ns.take k).filterMap (shfOf P Q)=xs:=⟨_,rfl⟩;rw [hxs] at S Hsn hxl;clear hn hka hkb hxs;go_upto_region 16 with fail
      clear d0;go_cut [14] (fun s14 wx=>∃ V:Nat,s14=.pointer (some ⟨V,0,none⟩)∧Mem wc wx [.loc V (shCs ⟨n,ka,kb⟩) 77,.own rShf Bk 77 u11 xs,.sl rInt (some ⟨b5,o5,none⟩) ns])
      case first =>
       refine wp_region_mixT [] (fun wx=>LV wx Y #[.slice A P.length ca] 61∧LV wx Z #[.slice B Q.length cb] 61) (.p 0 (.p 1 (.q 2 (.p 3 (.p 5 (.q 6 (.p 7 (.e2 4 (.e2 8 (.p 9 (.e 10 (.e 11 .z))) 10 (.e 8 (.p 9 (.e 11 .z)))) 10 (.e 4 (.e 8 (.p 9 (.e 11 .z)))))))))))) (by kernel_rfl) (by kernel_rfl) (fun _ hd=>HYZ.out _ (S.below (hd.below _)).b) (fun KK hKK wd hd=>?_);have T:=S.below (hd.below _);clear hd S;refine mpT ?_;refine mixT_loadR (.slice A P.length ca) rfl rfl rfl rfl (fun w' h=>loadC rfl (h.1.cell 0 _ rfl)) ?_;refine mpT ?_;refine mixT_loadR (.slice B Q.length cb) rfl rfl rfl rfl (fun w' h=>loadC rfl (h.2.cell 0 _ rfl)) ?_;refine mpT ?_;refine mixT_2 (mixT_one rfl rfl (fun K9 hK9=>?_)) (mixT_one rfl rfl (fun K9 hK9=>?_))
       ·go_wp2_with fail
        refine (HK1.out _ T.b).mono ?_;rintro e wa ⟨rfl,hba⟩;replace T:=T.below hba;have hC:=HYZ.out _ T.b;clear hba;go_wp2_with fail
        refine ⟨hC,?_⟩;clear hC;refine mixT_2 (mixT_one rfl rfl (fun K9 hK9=>?_)) (mixT_one rfl rfl (fun K9 hK9=>?_))
        ·go_wp2_with fail
         refine (HK2.out _ T.b).mono ?_;rintro e wb ⟨rfl,hbb⟩;replace T:=T.below hbb;have hC:=HYZ.out _ T.b;clear hbb;go_wp2_with fail
         refine ⟨hC,?_⟩;clear hC;refine mpT ?_;refine mixT_l rfl rfl (fun K9 hK9=>?_);go_wp2_with fail
         obtain ⟨V,hV⟩:∃ V,V=(wb).heap.size:=⟨_,rfl⟩;replace T:Mem wc _ [.loc V zsCs 77,.own rShf Bk 77 u11 xs,.sl rInt (some ⟨b5,o5,none⟩) ns]:=(T.newAt zsCs 77 V hV).front;rw [← hV];clear hV;generalize (wb).alloc (.cells zsCs 77)=we at *;refine ⟨HYZ.out _ T.b,?_⟩;refine mixT_l rfl rfl (fun K9 hK9=>?_);have l0:=(T.lv 0 rfl).all;have S9:Mem wc _ [.loc V (shCs ⟨n,ka,kb⟩) 77,.own rShf Bk 77 u11 xs,.sl rInt (some ⟨b5,o5,none⟩) ns]:=((((T.set 0 0 (.int .i64 n) rfl).set 0 1 (.int .i64 ka.k) rfl).set 0 2 (.string ka.t) rfl).set 0 3 (.int .i64 kb.k) rfl).set 0 4 (.string kb.t) rfl;go_wp2_with fail
         refine ⟨HYZ.out _ S9.b,?_⟩;refine mixT_nil ?_;simp only [Exit.then];refine hKK _ _ ?_;clear hKK KK;go_wp2_with fail
         go_meet;exact ⟨V,rfl,S9⟩
        ·go_wp2_with fail
         obtain ⟨V,hV⟩:∃ V,V=(wa).heap.size:=⟨_,rfl⟩;replace T:Mem wc _ [.loc V zsCs 77,.own rShf Bk 77 u11 xs,.sl rInt (some ⟨b5,o5,none⟩) ns]:=(T.newAt zsCs 77 V hV).front;rw [← hV];clear hV;generalize (wa).alloc (.cells zsCs 77)=we at *;refine ⟨HYZ.out _ T.b,?_⟩;refine mixT_l rfl rfl (fun K9 hK9=>?_);go_wp2_with fail
         refine (HK2.out _ T.b).mono ?_;rintro e wb ⟨rfl,hbb⟩;replace T:=T.below hbb;have hC:=HYZ.out _ T.b;clear hbb;go_wp2_with fail
         refine ⟨hC,?_⟩;clear hC;refine mpT ?_;refine mixT_l rfl rfl (fun K9 hK9=>?_);have l0:=(T.lv 0 rfl).all;have S9:Mem wc _ [.loc V (shCs ⟨n,ka,kb⟩) 77,.own rShf Bk 77 u11 xs,.sl rInt (some ⟨b5,o5,none⟩) ns]:=((((T.set 0 0 (.int .i64 n) rfl).set 0 1 (.int .i64 ka.k) rfl).set 0 2 (.string ka.t) rfl).set 0 3 (.int .i64 kb.k) rfl).set 0 4 (.string kb.t) rfl;go_wp2_with fail
         refine ⟨HYZ.out _ S9.b,?_⟩;refine mixT_nil ?_;simp only [Exit.then];refine hKK _ _ ?_;clear hKK KK;go_wp2_with fail
         go_meet;exact ⟨V,rfl,S9⟩
       ·go_wp2_with fail
        obtain ⟨V,hV⟩:∃ V,V=(wd).heap.size:=⟨_,rfl⟩;replace T:Mem wc _ [.loc V zsCs 77,.own rShf Bk 77 u11 xs,.sl rInt (some ⟨b5,o5,none⟩) ns]:=(T.newAt zsCs 77 V hV).front;rw [← hV];clear hV;generalize (wd).alloc (.cells zsCs 77)=we at *;refine ⟨HYZ.out _ T.b,?_⟩;refine mixT_l rfl rfl (fun K9 hK9=>?_);go_wp2_with fail
        refine (HK1.out _ T.b).mono ?_;rintro e wa ⟨rfl,hba⟩;replace T:=T.below hba;have hC:=HYZ.out _ T.b;clear hba;go_wp2_with fail
        refine ⟨hC,?_⟩;clear hC;refine mixT_l rfl rfl (fun K9 hK9=>?_);go_wp2_with fail
        refine (HK2.out _ T.b).mono ?_;rintro e wb ⟨rfl,hbb⟩;replace T:=T.below hbb;have hC:=HYZ.out _ T.b;clear hbb;go_wp2_with fail
        refine ⟨hC,?_⟩;clear hC;refine mpT ?_;refine mixT_l rfl rfl (fun K9 hK9=>?_);have l0:=(T.lv 0 rfl).all;have S9:Mem wc _ [.loc V (shCs ⟨n,ka,kb⟩) 77,.own rShf Bk 77 u11 xs,.sl rInt (some ⟨b5,o5,none⟩) ns]:=((((T.set 0 0 (.int .i64 n) rfl).set 0 1 (.int .i64 ka.k) rfl).set 0 2 (.string ka.t) rfl).set 0 3 (.int .i64 kb.k) rfl).set 0 4 (.string kb.t) rfl;go_wp2_with fail
        refine ⟨HYZ.out _ S9.b,?_⟩;refine mixT_nil ?_;simp only [Exit.then];refine hKK _ _ ?_;clear hKK KK;go_wp2_with fail
        go_meet;exact ⟨V,rfl,S9⟩
      case rest =>
       obtain ⟨V,rfl,S6⟩:=hcut;have y0:=(S6.lv 0 rfl).all;have hsB:Bk≤wc.heap.size:=by rw [Hb.out];exact S6.b.size
       clear S HYZ HK1 HK2;by_cases hke:ka=kb
       ·have h1:(ka.k==kb.k)=true:=by rw [hke];exact beq_self_eq_true _
        have h2:(ka.t.toList==kb.t.toList)=true:=by rw [hke];exact beq_self_eq_true _
        have Hs2:Hid (xs=(ns.take (k + 1)).filterMap (shfOf P Q)):=by show _=_;rw [Hsn.out,if_neg (fun h=>h hke)];simp
        clear Hsn hke;go_wp2_with fail
        go_roundw
        case rel=>exact ⟨k + 1,by omega,by go_num,by rw [← Hs2.out];exact S6.del 0⟩
        case measure=>simp [intOf];omega
       ·have Hs2:Hid (xs++[(⟨n,ka,kb⟩:Shf)]=(ns.take (k + 1)).filterMap (shfOf P Q)):=by show _=_;rw [Hsn.out,if_pos hke];rfl
        clear Hsn;by_cases h1:ka.k=kb.k
        ·have h1':(ka.k==kb.k)=true:=by simpa using h1
         have h2:(ka.t.toList==kb.t.toList)=false:=by
          cases h3:(ka.t.toList==kb.t.toList) with
          | false=>rfl
          | true=>exact absurd (idv_eq h1 h3) hke
         clear hke h1;go_wp2_with (at_builtin;go_loud (refine S6.app 1 rfl tyShf rfl _ _ rfl (⟨n,ka,kb⟩:Shf) 1 rfl rfl rfl (oneShf ⟨n,ka,kb⟩) hsB hxl (by decide) ?_);intro v' w7 S7)
         go_roundw
         case rel=>exact ⟨k + 1,by omega,by go_num,by rw [← Hs2.out];exact S7.del 0⟩
         case measure=>simp [intOf];omega
        ·have h1':(ka.k==kb.k)=false:=by simpa using h1
         clear hke h1;go_wp2_with (at_builtin;go_loud (refine S6.app 1 rfl tyShf rfl _ _ rfl (⟨n,ka,kb⟩:Shf) 1 rfl rfl rfl (oneShf ⟨n,ka,kb⟩) hsB hxl (by decide) ?_);intro v' w7 S7)
         go_roundw
         case rel=>exact ⟨k + 1,by omega,by go_num,by rw [← Hs2.out];exact S7.del 0⟩
         case measure=>simp [intOf];omega
     ·obtain rfl:k=ns.length:=by omega
      rw [List.take_length] at S;obtain ⟨A8,c8,e8,S8⟩:=S.frz 0 rfl;have HS8:=Lib.hid (S8.del 1);subst e8;clear S S8;go_wp2_with fail
      exact bodyPost_ret (results_two rfl rfl rfl) rfl ⟨A8,c8,ns.filterMap (shfOf P Q),by rw [HF.out];rfl,fun h=>absurd HF.out h,fun _=>HI.out,(Mem.start w).below Hwc.out |>.join HS8.out⟩
 ·have h0:(F != 0)=true:=by simpa using hF
  have Hf0:=Lib.hid hF;have HwF:Hid (Mem w w2 [.sl rShf none []]):=((Mem.start w).below (Hb1.out.trans (Hb2.out.mono Hb1.out.size))).call (Below.refl _ _) _ Sl.nil (fun k e=>by cases e);clear hF;go_wp2_with fail
  exact bodyPost_ret (results_two rfl rfl rfl) rfl ⟨none,0,[],by rw [HF.out];rfl,fun _=>rfl,fun h=>absurd (HF.out.symm.trans h) Hf0.out,HwF.out⟩
end
section
open Go Go.RowKit
set_option maxHeartbeats 4000000 in
set_option maxRecDepth 100000 in
theorem cloneT_any (A:Option Addr)(l:List TQ)(c:Nat)(w:World)(hL:Sl rTQ (fun _=>False) w A l)(hl:l.length≤1000) :
  Calls Tryz.prog 26 #[.slice A l.length c] w fun e w'=>∃ A' c',e=.returned (.slice A' l.length c')∧Mem w w' [.own rTQ w.heap.size 58 (.slice A' l.length c') l]:=by
 have he:∀ (a:Option Addr) (n c:Nat) (w:World),(binOp .eql 30 (.slice a n c) (.slice none 0 0)).run Tryz.prog w=.ok (.bool a.isNone) w:=fun a n c w=>Lib.run_eql_slice_nil w _ _ a n c 0 0 tyTch.under;cases A with
 | none =>
  obtain rfl:=Sl.nilOf hL;have S:Mem w w [.own rTQ w.heap.size 58 (.slice none 0 0) []]:=(Mem.start w).nil rTQ w.heap.size 58;go_enter Tryz.func26,Tryz.ntmps26
  go_wp2_with fail
  go_ret;exact ⟨none,0,rfl,S⟩
 | some ad =>
  have S:=(Mem.start w).newAt #[] 58 w.heap.size rfl;have S1:Mem w (w.alloc (.cells #[] 58)) [.own rTQ w.heap.size 58 (.slice (some ⟨w.heap.size,0,none⟩) 0 0) []]:=S.room (r:=rTQ) 0 rfl rfl (by decide) rfl;have Hc:=Lib.hid (Sl.flatCells flatTQ (fun _=>rfl) (hL.keepB S1.b));have hsz:=S1.b.size;have HS:=Lib.hid S1;have Hl:=Lib.hid hl;clear S S1 hL hl;go_enter Tryz.func26,Tryz.ntmps26
  go_wp2_with (at_builtin;refine HS.out.appN flatTQ 0 rfl tyTch rfl _ _ rfl l l.length c rfl rfl ad rfl Hc.out (fun y _=>oneTQ y) (fun _=>rfl) hsz (by simp only [List.length_nil];have:=Hl.out;omega) (by decide) ?_;intro v5 w5 S5)
  obtain ⟨A5,c5,e5⟩:=(S5.ow 0 rfl).len;subst e5;go_ret;exact ⟨A5,c5,rfl,S5⟩
end
section
open Go Go.RowKit
set_option maxHeartbeats 4000000 in
set_option maxRecDepth 100000 in
theorem cloneN_any (A:Option Addr)(l:List Int)(c:Nat)(w:World)(hL:Sl rInt (fun _=>False) w A l)(hl:l.length≤1000) :
  Calls Tryz.prog 146 #[.slice A l.length c] w fun e w'=>∃ A' c',e=.returned (.slice A' l.length c')∧Mem w w' [.own rInt w.heap.size 3 (.slice A' l.length c') l]:=by
 have he:∀ (a:Option Addr) (n c:Nat) (w:World),(binOp .eql 22 (.slice a n c) (.slice none 0 0)).run Tryz.prog w=.ok (.bool a.isNone) w:=fun a n c w=>Lib.run_eql_slice_nil w _ _ a n c 0 0 tyIntP.under;cases A with
 | none =>
  obtain rfl:=Sl.nilOf hL;have S:Mem w w [.own rInt w.heap.size 3 (.slice none 0 0) []]:=(Mem.start w).nil rInt w.heap.size 3;go_enter Tryz.func146,Tryz.ntmps146
  go_wp2_with fail
  go_ret;exact ⟨none,0,rfl,S⟩
 | some ad =>
  have S:=(Mem.start w).newAt #[] 3 w.heap.size rfl;have S1:Mem w (w.alloc (.cells #[] 3)) [.own rInt w.heap.size 3 (.slice (some ⟨w.heap.size,0,none⟩) 0 0) []]:=S.room (r:=rInt) 0 rfl rfl (by decide) rfl;have Hc:=Lib.hid (Sl.flatCells flatInt (fun _=>rfl) (hL.keepB S1.b));have hsz:=S1.b.size;have HS:=Lib.hid S1;have Hl:=Lib.hid hl;clear S S1 hL hl;go_enter Tryz.func146,Tryz.ntmps146
  go_wp2_with (at_builtin;refine HS.out.appN flatInt 0 rfl tyIntP rfl _ _ rfl l l.length c rfl rfl ad rfl Hc.out (fun y _=>oneJ y) (fun _=>rfl) hsz (by simp only [List.length_nil];have:=Hl.out;omega) (by decide) ?_;intro v5 w5 S5)
  obtain ⟨A5,c5,e5⟩:=(S5.ow 0 rfl).len;subst e5;go_ret;exact ⟨A5,c5,rfl,S5⟩
def PsnTn (P:List Psn):Prop:=P.length≤20∧∀ p∈P,p.tch.length≤20∧p.key.t.size≤10000
theorem flat_le {P:List Psn}{k:Nat}:(∀ p∈P,p.tch.length≤k)→(P.flatMap Psn.tch).length≤k * P.length:=by
 induction P with
 | nil=>intro _;simp
 | cons p r ih =>
  intro h;have h1:=ih (fun q hq=>h q (List.mem_cons_of_mem _ hq));have h2:=h p (List.mem_cons_self ..);rw [List.flatMap_cons,List.length_append,List.length_cons,Nat.mul_succ];omega
theorem PsnTn.sm {P:List Psn}(h:PsnTn P):PsnSm P :=
 ⟨Nat.le_trans h.1 (by decide),fun p hp=>Nat.le_trans (h.2 p hp).1 (by decide),fun p hp=>Nat.le_trans (h.2 p hp).2 (by decide),by
  have:=flat_le (fun p hp=>(h.2 p hp).1)
  have:=h.1
  omega⟩
theorem Sl.shf {N:Nat→Prop}{w:World}{A:Option Addr}{xs:List Shf}(h:Sl rShf N w A xs)(k:Nat)(s:Shf)(hk:xs[k]? =some s):∃ blk off,A=some ⟨blk,off,none⟩∧blk < w.heap.size ∧
  w.cell? ⟨blk,off + k * 5,none⟩=some (.int .i64 s.no)∧w.cell? ⟨blk,off + k * 5 + 1,none⟩=some (.int .i64 s.a.k)∧w.cell? ⟨blk,off + k * 5 + 2,none⟩=some (.string s.a.t)∧w.cell? ⟨blk,off + k * 5 + 3,none⟩=some (.int .i64 s.b.k)∧w.cell? ⟨blk,off + k * 5 + 4,none⟩=some (.string s.b.t):=by
 obtain ⟨blk,off,l,e1,h1,_,h3,h4⟩:=h k s hk;obtain rfl:l=Shf.cells s:=h3;exact ⟨blk,off,e1,h1,h4 0 _ rfl,h4 1 _ rfl,h4 2 _ rfl,h4 3 _ rfl,h4 4 _ rfl⟩
set_option maxHeartbeats 4000000 in
set_option maxRecDepth 100000 in
theorem eqShf_any (N:Nat→Prop)(A A2:Option Addr)(xs:List Shf)(c c2:Nat)(w:World)(h1:Sl rShf N w A xs)(h2:Sl rShf N w A2 xs)(hl:xs.length≤1000000000) :
  Calls Tryz.prog 32 #[.slice A xs.length c,.slice A2 xs.length c2] w fun e w'=>e=.returned (.bool true)∧Below w.heap.size w w':=by
 have H1:=Lib.hid h1;have H2:=Lib.hid h2;clear h1 h2;go_enter Tryz.func32,Tryz.ntmps32
 go_wp2_with fail
 go_loopw [13] (fun i wr=>∃ j:Nat,j≤xs.length∧i=.int .i64 j∧Below w.heap.size w wr) (fun i _=>xs.length - (intOf i).toNat)
 case atStart=>exact ⟨0,Nat.zero_le _,rfl,Below.refl _ _⟩
 case round =>
  obtain ⟨j,hj,rfl,hb⟩:=hrel;by_cases hlt:j < xs.length
  ·obtain ⟨e,hf⟩:∃ e,xs[j]? =some e:=⟨_,List.getElem?_eq_getElem hlt⟩;obtain ⟨b1,o1,rfl,_,c0,c1,c2,c3,c4⟩:=(H1.out.keepB hb).shf j e hf;obtain ⟨b2,o2,rfl,_,d0,d1,d2,d3,d4⟩:=(H2.out.keepB hb).shf j e hf;clear hf;go_wp2_with fail
   go_quiet (fail)
   go_wp2_with fail
   go_roundw
   case rel=>exact ⟨j + 1,by omega,by go_num,hb.trans (below_drewN _ _ _)⟩
   case measure=>simp [intOf];omega
  ·go_wp2_with fail
   go_ret;exact ⟨rfl,hb⟩
theorem shf_len {P Q:List Psn}(hP:PsnTn P)(hQ:PsnTn Q){l:List Shf}(h1:difF P Q≠0→l=[])(h2:difF P Q=0→IsShf P Q l):l.length≤1000:=by
 by_cases h:difF P Q=0
 ·have hI:=h2 h;have hn:(l.map Shf.no).Nodup:=by
   refine List.pairwise_map.2 (hI.1.imp (fun {a b} h e=>?_));omega
  have h3:=sub_len (m:=P.flatMap Psn.tch++Q.flatMap Psn.tch) hn (fun n hn=>by
   obtain ⟨s,hs,rfl⟩:=List.mem_map.1 hn;rcases ((hI.2 s).1 hs).1 with ⟨p,hp,hm⟩ | ⟨p,hp,hm⟩
   ·exact List.mem_append_left _ (List.mem_flatMap.2 ⟨p,hp,hm⟩)
   ·exact List.mem_append_right _ (List.mem_flatMap.2 ⟨p,hp,hm⟩))
  rw [List.length_map,List.length_append] at h3;have a1:=flat_le (fun p hp=>(hP.2 p hp).1);have a2:=flat_le (fun p hp=>(hQ.2 p hp).1);have:=hP.1
  have:=hQ.1
  omega
 ·rw [h1 h];simp
end
section
open Go Go.RowKit
theorem Own.pqAt {M:Nat→Prop}{B E g n cap:Nat}{w:World}{xs:List PsQ}(h:Own rPsQ M B E w (.slice (some ⟨g,0,none⟩) n cap) xs)(hn:n=xs.length)(k:Nat)(x:PsQ)(hk:xs[k]? =some x) :
  (w.cell? ⟨g,k * 4,none⟩=some (.int .i64 x.p.key.k)∧w.cell? ⟨g,k * 4 + 1,none⟩=some (.string x.p.key.t)∧w.cell? ⟨g,k * 4 + 2,none⟩=some (.slice x.A x.p.tch.length x.a)∧w.cell? ⟨g,k * 4 + 3,none⟩=some (.slice x.B x.p.ids.length x.b)) ∧
  ∀ j,j < 4→w.frozen? ⟨g,k * 4 + j,none⟩=false :=
 ⟨⟨(h.cellP flatPsQ hn k x hk 0 _ rfl).1,(h.cellP flatPsQ hn k x hk 1 _ rfl).1,(h.cellP flatPsQ hn k x hk 2 _ rfl).1,(h.cellP flatPsQ hn k x hk 3 _ rfl).1⟩,fun j hj=>by
  obtain ⟨u,hu⟩:∃ u,(PsQ.cells x)[j]? =some u:=⟨_,List.getElem?_eq_getElem hj⟩;exact (h.cellP flatPsQ hn k x hk j u hu).2⟩
section
variable {b m:Nat} {w0 w:World} {c0 c1:Chunk} {tl:List Chunk} {B E g n cap:Nat} {ps:List PsQ} {v:Value}
end
end
end Go.Proofs.YtmkkppknaikjjaaGreatDoor
