/- Several texts in one: CloneQ, CopyT, CopyR. -/
import Derived.Test.YtmkkppknaikjjaaGreatDoorPixF
import Derived.Test.YtmkkppknaikjjaaGreatDoorPixK
import Derived.Test.YtmkkppknaikjjaaGreatDoorPixX
import Derived.Test.YtmkkppknaikjjaaGreatDoorPixU
import Derived.Test.YtmkkppknaikjjaaGreatDoorPixD
/- What slices.Clone makes of texts, of survivals and of persons; rows that hold slices, told with these and without. -/
namespace Go.Proofs.YtmkkppknaikjjaaGreatDoor
section
open Go Go.RowKit
theorem tyStrC:STy 122 9 rStr.size 16 (.string ⟨#[]⟩):=⟨Tryz.underlying122,by kernel_rfl,rfl,by decide⟩
theorem oneStrC (s:ByteArray):∀ u∈[Value.string s],u.oneCell'=true:=fun u hu=>by
 rw [List.mem_singleton.1 hu];rfl
set_option maxHeartbeats 4000000 in
set_option maxRecDepth 100000 in
theorem cloneW_any (A:Option Addr)(l:List ByteArray)(c:Nat)(w:World)(hL:Sl rStr (fun _=>False) w A l)(hl:l.length≤1000) :
  Calls Tryz.prog 148 #[.slice A l.length c] w fun e w'=>∃ A' c',e=.returned (.slice A' l.length c')∧Mem w w' [.own rStr w.heap.size 9 (.slice A' l.length c') l]:=by
 have he:∀ (a:Option Addr) (n c:Nat) (w:World),(binOp .eql 122 (.slice a n c) (.slice none 0 0)).run Tryz.prog w=.ok (.bool a.isNone) w:=fun a n c w=>Lib.run_eql_slice_nil w _ _ a n c 0 0 tyStrC.under;cases A with
 | none =>
  obtain rfl:=Sl.nilOf hL;have S:Mem w w [.own rStr w.heap.size 9 (.slice none 0 0) []]:=(Mem.start w).nil rStr w.heap.size 9;go_enter Tryz.func148,Tryz.ntmps148
  go_wp2_with fail
  go_ret;exact ⟨none,0,rfl,S⟩
 | some ad =>
  have S:=(Mem.start w).newAt #[] 9 w.heap.size rfl;have S1:Mem w (w.alloc (.cells #[] 9)) [.own rStr w.heap.size 9 (.slice (some ⟨w.heap.size,0,none⟩) 0 0) []]:=S.room (r:=rStr) 0 rfl rfl (by decide) rfl;have Hc:=Lib.hid (Sl.flatCells flatStr (fun _=>rfl) (hL.keepB S1.b));have hsz:=S1.b.size;have HS:=Lib.hid S1;have Hl:=Lib.hid hl;clear S S1 hL hl;go_enter Tryz.func148,Tryz.ntmps148
  go_wp2_with (at_builtin;refine HS.out.appN flatStr 0 rfl tyStrC rfl _ _ rfl l l.length c rfl rfl ad rfl Hc.out (fun y _=>oneStrC y) (fun _=>rfl) hsz (by simp only [List.length_nil];have:=Hl.out;omega) (by decide) ?_;intro v5 w5 S5)
  obtain ⟨A5,c5,e5⟩:=(S5.ow 0 rfl).len;subst e5;go_ret;exact ⟨A5,c5,rfl,S5⟩
set_option maxHeartbeats 4000000 in
set_option maxRecDepth 100000 in
theorem cloneSQ_any (A:Option Addr)(l:List SQ)(c:Nat)(w:World)(hL:Sl rSQ (fun _=>False) w A l)(hl:l.length≤1000) :
  Calls Tryz.prog 147 #[.slice A l.length c] w fun e w'=>∃ A' c',e=.returned (.slice A' l.length c')∧Mem w w' [.own rSQ w.heap.size 124 (.slice A' l.length c') l]:=by
 have he:∀ (a:Option Addr) (n c:Nat) (w:World),(binOp .eql 27 (.slice a n c) (.slice none 0 0)).run Tryz.prog w=.ok (.bool a.isNone) w:=fun a n c w=>Lib.run_eql_slice_nil w _ _ a n c 0 0 tySrv.under;cases A with
 | none =>
  obtain rfl:=Sl.nilOf hL;have S:Mem w w [.own rSQ w.heap.size 124 (.slice none 0 0) []]:=(Mem.start w).nil rSQ w.heap.size 124;go_enter Tryz.func147,Tryz.ntmps147
  go_wp2_with fail
  go_ret;exact ⟨none,0,rfl,S⟩
 | some ad =>
  have S:=(Mem.start w).newAt #[] 124 w.heap.size rfl;have S1:Mem w (w.alloc (.cells #[] 124)) [.own rSQ w.heap.size 124 (.slice (some ⟨w.heap.size,0,none⟩) 0 0) []]:=S.room (r:=rSQ) 0 rfl rfl (by decide) rfl;have Hc:=Lib.hid (Sl.flatCells flatSQ (fun _=>rfl) (hL.keepB S1.b));have hsz:=S1.b.size;have HS:=Lib.hid S1;have Hl:=Lib.hid hl;clear S S1 hL hl;go_enter Tryz.func147,Tryz.ntmps147
  go_wp2_with (at_builtin;refine HS.out.appN flatSQ 0 rfl tySrv rfl _ _ rfl l l.length c rfl rfl ad rfl Hc.out (fun y _=>oneSQ y) (fun _=>rfl) hsz (by simp only [List.length_nil];have:=Hl.out;omega) (by decide) ?_;intro v5 w5 S5)
  obtain ⟨A5,c5,e5⟩:=(S5.ow 0 rfl).len;subst e5;go_ret;exact ⟨A5,c5,rfl,S5⟩
set_option maxHeartbeats 4000000 in
set_option maxRecDepth 100000 in
theorem clonePQ_any (A:Option Addr)(l:List PsQ)(c:Nat)(w:World)(hL:Sl rPsQ (fun _=>False) w A l)(hl:l.length≤1000) :
  Calls Tryz.prog 110 #[.slice A l.length c] w fun e w'=>∃ A' c',e=.returned (.slice A' l.length c')∧Mem w w' [.own rPsQ w.heap.size 80 (.slice A' l.length c') l]:=by
 have he:∀ (a:Option Addr) (n c:Nat) (w:World),(binOp .eql 61 (.slice a n c) (.slice none 0 0)).run Tryz.prog w=.ok (.bool a.isNone) w:=fun a n c w=>Lib.run_eql_slice_nil w _ _ a n c 0 0 tyPsn.under;cases A with
 | none =>
  obtain rfl:=Sl.nilOf hL;have S:Mem w w [.own rPsQ w.heap.size 80 (.slice none 0 0) []]:=(Mem.start w).nil rPsQ w.heap.size 80;go_enter Tryz.func110,Tryz.ntmps110
  go_wp2_with fail
  go_ret;exact ⟨none,0,rfl,S⟩
 | some ad =>
  have S:=(Mem.start w).newAt #[] 80 w.heap.size rfl;have S1:Mem w (w.alloc (.cells #[] 80)) [.own rPsQ w.heap.size 80 (.slice (some ⟨w.heap.size,0,none⟩) 0 0) []]:=S.room (r:=rPsQ) 0 rfl rfl (by decide) rfl;have Hc:=Lib.hid (Sl.flatCells flatPsQ (fun _=>rfl) (hL.keepB S1.b));have hsz:=S1.b.size;have HS:=Lib.hid S1;have Hl:=Lib.hid hl;clear S S1 hL hl;go_enter Tryz.func110,Tryz.ntmps110
  go_wp2_with (at_builtin;refine HS.out.appN flatPsQ 0 rfl tyPsn rfl _ _ rfl l l.length c rfl rfl ad rfl Hc.out (fun y _=>onePsQ y) (fun _=>rfl) hsz (by simp only [List.length_nil];have:=Hl.out;omega) (by decide) ?_;intro v5 w5 S5)
  obtain ⟨A5,c5,e5⟩:=(S5.ow 0 rfl).len;subst e5;go_ret;exact ⟨A5,c5,rfl,S5⟩
theorem srv_q {N:Nat→Prop}{w:World}{A:Option Addr}{P:List Srv}(h:Sl rSrv N w A P):∃ qs:List SQ,qs.map SQ.s=P∧Sl rSQ N w A qs∧SdOk N w qs:=by
 have hx:∀ i:Fin P.length,∃ q:SQ,q.s=P[i]∧∃ blk off,A=some ⟨blk,off,none⟩∧blk < w.heap.size∧¬ N blk∧(∀ j u,q.cells[j]? =some u→w.cell? ⟨blk,off + i.1 * 3 + j,none⟩=some u)∧q.s.srcs.length≤q.c∧Sl rStr N w q.A q.s.srcs:=fun i=>by
  obtain ⟨blk,off,l,e1,h1,h2,h3,h4⟩:=h i.1 P[i] (List.getElem?_eq_getElem i.2);obtain ⟨At,a,rfl,hc,hf⟩:=rSrv_of h3;exact ⟨⟨P[i],At,a⟩,rfl,blk,off,e1,h1,h2,h4,hc,hf⟩
 refine ⟨List.ofFn (fun i=>(hx i).choose),?_,fun i x hi=>?_,fun q hq=>?_⟩
 ·apply List.ext_getElem
  ·simp
  ·intro i h1 h2;rw [List.getElem_map,List.getElem_ofFn];exact (hx ⟨i,h2⟩).choose_spec.1
 ·have hl:i < P.length:=by have:=lt_of_get hi;simpa using this
  rw [List.getElem?_eq_getElem (by simpa using hl),List.getElem_ofFn] at hi;obtain ⟨_,blk,off,e1,h1,h2,h4,_⟩:=(hx ⟨i,hl⟩).choose_spec;rw [Option.some.inj hi] at h4;exact ⟨blk,off,_,e1,h1,h2,rfl,h4⟩
 ·obtain ⟨i,rfl⟩:=List.mem_ofFn.1 hq;obtain ⟨_,_,_,_,_,_,_,h5⟩:=(hx i).choose_spec;exact h5
end
section
open Go Go.RowKit
theorem loadTchV {w:World}{X:Nat}{a b c d e:Value}(h:LV w X #[a,b,c,d,e] 58):(loadVar 58 ⟨X,0,none⟩).run Tryz.prog w=.ok (.agg #[a,b,c,d,e]) w:=by
 have c0:=h.all;go_simp
def GivesCT (t:Tch)(w:World)(e:Ending)(w':World):Prop:=∃ A c B d,e=.returned (.agg (tcCs t A c B d))∧Mem w w' [.sl rId A t.ids,.sl rFld B t.flds]
set_option maxHeartbeats 8000000 in
set_option maxRecDepth 100000 in
theorem copyT_any (t:Tch)(A B:Option Addr)(c d:Nat)(w:World)(hA:Sl rId (fun _=>False) w A t.ids)(hB:Sl rFld (fun _=>False) w B t.flds)(hl1:t.ids.length≤1000)(hl2:t.flds.length≤1000) :
  Calls Tryz.prog 84 #[.agg (tcCs t A c B d)] w (GivesCT t w):=by
 have Hc1:=Lib.hid (fun w' (h:Below w.heap.size w w')=>cloneI_any A t.ids c w' (hA.keepB h) hl1);have Hc2:=Lib.hid (fun w' (h:Below w.heap.size w w')=>cloneF_any B t.flds d w' (hB.keepB h) hl2);clear hA hB;go_enter Tryz.func84,Tryz.ntmps84
 go_upto_region 1 with fail
 obtain ⟨X,hX⟩:∃ X,X=w.heap.size:=⟨_,rfl⟩;obtain ⟨Y,hY⟩:∃ Y,Y=w.heap.size + 1:=⟨_,rfl⟩;have S:Mem w _ [.loc X (tcCs t A c B d) 58,.loc Y tzCs 58]:=((Mem.start w).newAt (tcCs t A c B d) 58 X hX).newAt tzCs 58 Y (by rw [alloc_size];exact hY);rw [← hY,← hX];clear hY hX;generalize World.alloc _ _=w1 at S ⊢;refine wp_region_mixT [7] (fun wx=>LV wx X (tcCs t A c B d) 58) (.p 0 (.q 1 (.p 3 (.q 4 (.e 2 (.p 6 (.e 5 (.b 7 (.p 8 (.e 9 .z)))))))))) (by kernel_rfl) (by kernel_rfl) (fun _ hd=>(S.below (hd.below _)).lv 0 rfl) (fun KK hKK wd hd=>?_);replace S:=S.below (hd.below _);clear hd;refine mpT ?_;refine mixT_loadR (.slice A t.ids.length c) rfl rfl rfl rfl (fun w' h=>loadC rfl (h.cell 3 _ rfl)) ?_;refine mpT ?_;refine mixT_loadR (.slice B t.flds.length d) rfl rfl rfl rfl (fun w' h=>loadC rfl (h.cell 4 _ rfl)) ?_;refine mixT_l rfl rfl (fun K9 hK9=>?_);have HS:=Lib.hid S;clear S;go_wp2_with fail
 refine (Hc1.out wd HS.out.b).mono ?_;rintro e w2 ⟨A1,c1,rfl,T1⟩;have S:=HS.out.join T1;have hC:=S.lv 0 rfl;clear HS Hc1 T1;go_wp2_with fail
 refine ⟨hC,?_⟩;clear hC;refine mpT ?_;refine mixT_l rfl rfl (fun K9 hK9=>?_);have HS:=Lib.hid S;clear S;go_wp2_with fail
 refine (Hc2.out w2 HS.out.b).mono ?_;rintro e w3 ⟨B1,d1,rfl,T1⟩;obtain ⟨A2,c2,e2,S2⟩:=(HS.out.join T1).frz 2 rfl;cases e2;have S:Mem w w3 [.loc X (tcCs t A c B d) 58,.loc Y tzCs 58,.sl rId A1 t.ids,.sl rFld B1 t.flds]:=S2;have hC:=S.lv 0 rfl;clear HS Hc2 T1 S2;go_wp2_with fail
 refine ⟨hC,?_⟩;clear hC;refine mixT_b rfl rfl (fun K9 hK9=>?_);have l0:=(S.lv 0 rfl).all;have S9:=(S.set 0 3 (.slice A1 t.ids.length c1) rfl).set 0 4 (.slice B1 t.flds.length d1) rfl;have HS9:=Lib.hid S9;clear S S9;go_wp2_with fail
 refine ⟨trivial,?_⟩;refine mpT ?_;refine mixT_l rfl rfl (fun K9 hK9=>?_);go_wp2_with fail
 refine ⟨trivial,?_⟩;refine mixT_nil ?_;simp only [Exit.then];refine hKK _ _ ?_;clear hKK KK l0;have S:=HS9.out;generalize World.setCell _ _ _=w4 at S ⊢;have l0:=(S.lv 0 rfl).all;have l1:=(S.lv 1 rfl).all;have S8:=((((S.set 1 0 (.int .i64 t.no) rfl).set 1 1 (.int .i64 t.at') rfl).set 1 2 (.string t.src) rfl).set 1 3 (.slice A1 t.ids.length c1) rfl).set 1 4 (.slice B1 t.flds.length d1) rfl;have HS8:=Lib.hid S8;clear S S8 HS9;go_wp2_with fail
 exact bodyPost_ret (results_cell1 rfl rfl (loadTchV (HS8.out.lv 1 rfl))) rfl ⟨_,_,_,_,rfl,(HS8.out.del 0).del 0⟩
def GivesCP (t:Psn)(w:World)(e:Ending)(w':World):Prop:=∃ A c B d,e=.returned (.agg (psCs t A c B d))∧Mem w w' [.sl rInt A t.tch,.sl rId B t.ids]
set_option maxHeartbeats 8000000 in
set_option maxRecDepth 100000 in
theorem copyP_any (t:Psn)(A B:Option Addr)(c d:Nat)(w:World)(hA:Sl rInt (fun _=>False) w A t.tch)(hB:Sl rId (fun _=>False) w B t.ids)(hl1:t.tch.length≤1000)(hl2:t.ids.length≤1000) :
  Calls Tryz.prog 98 #[.agg (psCs t A c B d)] w (GivesCP t w):=by
 have Hc1:=Lib.hid (fun w' (h:Below w.heap.size w w')=>cloneN_any A t.tch c w' (hA.keepB h) hl1);have Hc2:=Lib.hid (fun w' (h:Below w.heap.size w w')=>cloneI_any B t.ids d w' (hB.keepB h) hl2);clear hA hB;go_enter Tryz.func98,Tryz.ntmps98
 go_upto_region 1 with fail
 obtain ⟨X,hX⟩:∃ X,X=w.heap.size:=⟨_,rfl⟩;obtain ⟨Y,hY⟩:∃ Y,Y=w.heap.size + 1:=⟨_,rfl⟩;have S:Mem w _ [.loc X (psCs t A c B d) 80,.loc Y pzCs 80]:=((Mem.start w).newAt (psCs t A c B d) 80 X hX).newAt pzCs 80 Y (by rw [alloc_size];exact hY);rw [← hY,← hX];clear hY hX;generalize World.alloc _ _=w1 at S ⊢;refine wp_region_mixT [7] (fun wx=>LV wx X (psCs t A c B d) 80) (.p 0 (.q 1 (.p 3 (.q 4 (.e 2 (.p 6 (.e 5 (.b 7 (.p 8 (.e 9 .z)))))))))) (by kernel_rfl) (by kernel_rfl) (fun _ hd=>(S.below (hd.below _)).lv 0 rfl) (fun KK hKK wd hd=>?_);replace S:=S.below (hd.below _);clear hd;refine mpT ?_;refine mixT_loadR (.slice A t.tch.length c) rfl rfl rfl rfl (fun w' h=>loadC rfl (h.cell 2 _ rfl)) ?_;refine mpT ?_;refine mixT_loadR (.slice B t.ids.length d) rfl rfl rfl rfl (fun w' h=>loadC rfl (h.cell 3 _ rfl)) ?_;refine mixT_l rfl rfl (fun K9 hK9=>?_);have HS:=Lib.hid S;clear S;go_wp2_with fail
 refine (Hc1.out wd HS.out.b).mono ?_;rintro e w2 ⟨A1,c1,rfl,T1⟩;have S:=HS.out.join T1;have hC:=S.lv 0 rfl;clear HS Hc1 T1;go_wp2_with fail
 refine ⟨hC,?_⟩;clear hC;refine mpT ?_;refine mixT_l rfl rfl (fun K9 hK9=>?_);have HS:=Lib.hid S;clear S;go_wp2_with fail
 refine (Hc2.out w2 HS.out.b).mono ?_;rintro e w3 ⟨B1,d1,rfl,T1⟩;obtain ⟨A2,c2,e2,S2⟩:=(HS.out.join T1).frz 2 rfl;cases e2;obtain ⟨A3,c3,e3,S3⟩:=S2.frz 3 rfl;cases e3;have S:Mem w w3 [.loc X (psCs t A c B d) 80,.loc Y pzCs 80,.sl rInt A1 t.tch,.sl rId B1 t.ids]:=S3;have hC:=S.lv 0 rfl;clear HS Hc2 T1 S2 S3;go_wp2_with fail
 refine ⟨hC,?_⟩;clear hC;refine mixT_b rfl rfl (fun K9 hK9=>?_);have l0:=(S.lv 0 rfl).all;have S9:=(S.set 0 2 (.slice A1 t.tch.length c1) rfl).set 0 3 (.slice B1 t.ids.length d1) rfl;have HS9:=Lib.hid S9;clear S S9;go_wp2_with fail
 refine ⟨trivial,?_⟩;refine mpT ?_;refine mixT_l rfl rfl (fun K9 hK9=>?_);go_wp2_with fail
 refine ⟨trivial,?_⟩;refine mixT_nil ?_;simp only [Exit.then];refine hKK _ _ ?_;clear hKK KK l0;have S:=HS9.out;generalize World.setCell _ _ _=w4 at S ⊢;have l0:=(S.lv 0 rfl).all;have l1:=(S.lv 1 rfl).all;have S8:=(((S.set 1 0 (.int .i64 t.key.k) rfl).set 1 1 (.string t.key.t) rfl).set 1 2 (.slice A1 t.tch.length c1) rfl).set 1 3 (.slice B1 t.ids.length d1) rfl;have HS8:=Lib.hid S8;clear S S8 HS9;go_wp2_with fail
 exact bodyPost_ret (results_cell1 rfl rfl (loadPsn (HS8.out.lv 1 rfl))) rfl ⟨_,_,_,_,rfl,(HS8.out.del 0).del 0⟩
end
section
open Go Go.RowKit
theorem loadRulV {w:World}{X:Nat}{a b c d:Value}(h:LV w X #[a,b,c,d] 29):(loadVar 29 ⟨X,0,none⟩).run Tryz.prog w=.ok (.agg #[a,b,c,d]) w:=by
 have c0:=h.all;go_simp
theorem Mem.sdm {w0 w:World}{cs:List Chunk}(S:Mem w0 w cs)(i:Nat){qs:List SQ}(hi:cs[i]? =some (.sdat qs)):SdOk (Mut w0.heap.size cs) w qs:=S.ok _ (List.mem_of_getElem? hi)
def GivesCR (r:Rul)(w:World)(e:Ending)(w':World):Prop:=∃ K ck W cw S cs,e=.returned (.agg (ruCs r K ck W cw S cs))∧Mem w w' [.sl rInt K r.kinds,.sl rId W r.weak,.sl rSrv S r.surv]
abbrev rqCs (K:Option Addr)(a ck:Nat)(mo:Int)(W:Option Addr)(b cw:Nat)(S:Option Addr)(c cs:Nat):Array Value:=#[.slice K a ck,.int .i64 mo,.slice W b cw,.slice S c cs]
set_option maxHeartbeats 8000000 in
set_option maxRecDepth 100000 in
theorem copyQ_any (ks:List Int)(mo:Int)(ws:List IdV)(qs:List SQ)(K W Sv:Option Addr)(ck cw cs:Nat)(w:World)(hK:Sl rInt (fun _=>False) w K ks)(hW:Sl rId (fun _=>False) w W ws)(hQ:Sl rSQ (fun _=>False) w Sv qs)(hd:SdOk (fun _=>False) w qs)(h1:ks.length≤1000)(h2:ws.length≤1000)(h3:qs.length≤1000)(h4:∀ q∈qs,q.s.srcs.length≤1000) :
  Calls Tryz.prog 72 #[.agg (rqCs K ks.length ck mo W ws.length cw Sv qs.length cs)] w fun e w'=>∃ K' ck' W' cw' S' cs',∃ zs:List SQ,e=.returned (.agg (rqCs K' ks.length ck' mo W' ws.length cw' S' qs.length cs'))∧zs.map SQ.s=qs.map SQ.s∧Mem w w' [.sl rInt K' ks,.sl rId W' ws,.sl rSrv S' (zs.map SQ.s)]:=by
 have Hc1:=Lib.hid (fun w' (h:Below w.heap.size w w')=>cloneN_any K ks ck w' (hK.keepB h) h1);have Hc2:=Lib.hid (fun w' (h:Below w.heap.size w w')=>cloneI_any W ws cw w' (hW.keepB h) h2);have Hc3:=Lib.hid (fun w' (h:Below w.heap.size w w')=>cloneSQ_any Sv qs cs w' (hQ.keepB h) h3);have Hd:Hid (∀ q∈qs,∀ w',Below w.heap.size w w'→Sl rStr (fun _=>False) w' q.A q.s.srcs):=fun q hq w' h=>(hd q hq).2.keepB h;have H4:=Lib.hid h4;clear hK hW hQ hd h4;go_enter Tryz.func72,Tryz.ntmps72
 go_upto_region 1 with fail
 obtain ⟨X,hX⟩:∃ X,X=w.heap.size:=⟨_,rfl⟩;obtain ⟨Y,hY⟩:∃ Y,Y=w.heap.size + 1:=⟨_,rfl⟩;have S:Mem w _ [.loc X (rqCs K ks.length ck mo W ws.length cw Sv qs.length cs) 29,.loc Y jzCs 29]:=((Mem.start w).newAt (rqCs K ks.length ck mo W ws.length cw Sv qs.length cs) 29 X hX).newAt jzCs 29 Y (by rw [alloc_size];exact hY);rw [← hY,← hX];clear hY hX;generalize World.alloc _ _=w1 at S ⊢;refine wp_region_mixT [10] (fun wx=>LV wx X (rqCs K ks.length ck mo W ws.length cw Sv qs.length cs) 29) (.p 0 (.q 1 (.p 3 (.q 4 (.p 6 (.q 7 (.e 2 (.p 9 (.e 5 (.e 8 (.b 10 (.p 11 (.e 12 (.p 13 (.e 14 .z))))))))))))))) (by kernel_rfl) (by kernel_rfl) (fun _ hd=>(S.below (hd.below _)).lv 0 rfl) (fun KK hKK wd hd=>?_);replace S:=S.below (hd.below _);clear hd;refine mpT ?_;refine mixT_loadR (.slice K ks.length ck) rfl rfl rfl rfl (fun w' h=>loadC rfl (h.cell 0 _ rfl)) ?_;refine mpT ?_;refine mixT_loadR (.slice W ws.length cw) rfl rfl rfl rfl (fun w' h=>loadC rfl (h.cell 2 _ rfl)) ?_;refine mpT ?_;refine mixT_loadR (.slice Sv qs.length cs) rfl rfl rfl rfl (fun w' h=>loadC rfl (h.cell 3 _ rfl)) ?_;refine mixT_l rfl rfl (fun K9 hK9=>?_);have HS:=Lib.hid S;clear S;go_wp2_with fail
 refine (Hc1.out wd HS.out.b).mono ?_;rintro e w2 ⟨K1,ck1,rfl,T1⟩;obtain ⟨A2,c2,e2,S2⟩:=(HS.out.join T1).frz 2 rfl;cases e2;have S:Mem w w2 [.loc X (rqCs K ks.length ck mo W ws.length cw Sv qs.length cs) 29,.loc Y jzCs 29,.sl rInt K1 ks]:=S2;have hC:=S.lv 0 rfl;clear HS Hc1 T1 S2;go_wp2_with fail
 refine ⟨hC,?_⟩;clear hC;refine mpT ?_;refine mixT_l rfl rfl (fun K9 hK9=>?_);have HS:=Lib.hid S;clear S;go_wp2_with fail
 refine (Hc2.out w2 HS.out.b).mono ?_;rintro e w3 ⟨W1,cw1,rfl,T1⟩;obtain ⟨A2,c2,e2,S2⟩:=(HS.out.join T1).frz 3 rfl;cases e2;have S:Mem w w3 [.loc X (rqCs K ks.length ck mo W ws.length cw Sv qs.length cs) 29,.loc Y jzCs 29,.sl rInt K1 ks,.sl rId W1 ws]:=S2;have hC:=S.lv 0 rfl;clear HS Hc2 T1 S2;go_wp2_with fail
 refine ⟨hC,?_⟩;clear hC;refine mixT_l rfl rfl (fun K9 hK9=>?_);have HS:=Lib.hid S;clear S;go_wp2_with fail
 refine (Hc3.out w3 HS.out.b).mono ?_;rintro e w4 ⟨S1,cs1,rfl,T1⟩;obtain ⟨B,hB⟩:∃ B,B=w3.heap.size:=⟨_,rfl⟩;rw [← hB] at T1;have S:Mem w w4 [.loc X (rqCs K ks.length ck mo W ws.length cw Sv qs.length cs) 29,.loc Y jzCs 29,.sl rInt K1 ks,.sl rId W1 ws,.own rSQ B 124 (.slice S1 qs.length cs1) qs]:=HS.out.join T1;have hC:=S.lv 0 rfl;clear HS Hc3 T1 hB;go_wp2_with fail
 refine ⟨hC,?_⟩;clear hC;refine mixT_b rfl rfl (fun K9 hK9=>?_);have l0:=(S.lv 0 rfl).all;have S9:=((S.set 0 0 (.slice K1 ks.length ck1) rfl).set 0 2 (.slice W1 ws.length cw1) rfl).set 0 3 (.slice S1 qs.length cs1) rfl;have HS9:=Lib.hid S9;clear S S9;go_wp2_with fail
 refine ⟨trivial,?_⟩;refine mpT ?_;refine mixT_l rfl rfl (fun K9 hK9=>?_);go_wp2_with fail
 refine ⟨trivial,?_⟩;refine mpT ?_;refine mixT_l rfl rfl (fun K9 hK9=>?_);go_wp2_with fail
 refine ⟨trivial,?_⟩;refine mixT_nil ?_;simp only [Exit.then];refine hKK _ _ ?_;clear hKK KK l0;have S2:=HS9.out.call (Below.refl _ _) (.sdat []) (fun q hq=>by cases hq) (fun k e=>by cases e);have S:Mem w _ [.loc X (rqCs K1 ks.length ck1 mo W1 ws.length cw1 S1 qs.length cs1) 29,.loc Y jzCs 29,.sl rInt K1 ks,.sl rId W1 ws,.own rSQ B 124 (.slice S1 qs.length cs1) qs,.sdat []]:=S2;clear S2 HS9;generalize World.setCell _ _ _=w5 at S ⊢;obtain ⟨n,hn⟩:∃ n,n=qs.length:=⟨_,rfl⟩;have Hn:=Lib.hid hn;have h3n:n≤1000:=by omega
 rw [← hn] at S ⊢;clear hn h3;have l0:=(S.lv 0 rfl).all;go_upto_region 2 with fail
 go_wp2_with fail
 clear l0;go_loopw [19] (fun i wr=>∃ (k:Nat) (ys zs:List SQ),k≤n∧i=.int .i64 k∧Hid (ys.map SQ.s=(qs.take k).map SQ.s)∧Hid (ys.length=k)∧Hid (zs=ys++qs.drop k)∧Mem w wr [.loc X (rqCs K1 ks.length ck1 mo W1 ws.length cw1 S1 n cs1) 29,.loc Y jzCs 29,.sl rInt K1 ks,.sl rId W1 ws,.own rSQ B 124 (.slice S1 n cs1) zs,.sdat ys]) (fun i _=>n - (intOf i).toNat)
 case atStart=>exact ⟨0,[],qs,Nat.zero_le _,rfl,rfl,rfl,rfl,S⟩
 case round =>
  clear S;obtain ⟨k,ys,zs,hk,rfl,Hy,Hyl,Hz,S⟩:=hrel;have Hzl:Hid (n=zs.length):=by show _=_;rw [Hz.out,List.length_append,List.length_drop,Hyl.out,← Hn.out];omega
  by_cases hlt:k < n
  ·obtain ⟨q,hq⟩:∃ q,qs[k]? =some q:=⟨_,List.getElem?_eq_getElem (by have:=Hn.out;omega)⟩;have hzq:zs[k]? =some q:=by
    rw [Hz.out,List.getElem?_append_right (by have:=Hyl.out;omega),Hyl.out,List.getElem?_drop,Nat.sub_self];exact hq
   have Hzq:=Lib.hid hzq;have Hq:=Lib.hid hq;obtain ⟨g,cap,e,hcap⟩:=(S.ow 4 rfl).form (by have:=Hzl.out;omega);simp only [Value.slice.injEq] at e;obtain ⟨rfl,_,rfl⟩:=e;have hC0:∀ wx,Mem w wx [.loc X (rqCs K1 ks.length ck1 mo W1 ws.length cw1 (some ⟨g,0,none⟩) n cs1) 29,.loc Y jzCs 29,.sl rInt K1 ks,.sl rId W1 ws,.own rSQ B 124 (.slice (some ⟨g,0,none⟩) n cs1) zs,.sdat ys]→wx.cell? ⟨g,k * 3 + 2,none⟩=some (.slice q.A q.s.srcs.length q.c)∧wx.frozen? ⟨g,k * 3 + 2,none⟩=false:=fun wx S=>(S.ow 4 rfl).cellP flatSQ Hzl.out k q Hzq.out 2 _ rfl;have HC0:=Lib.hid hC0;clear hq hzq hC0;go_upto_region 5 with fail
   refine wp_region_mixT [12] (fun wx=>LV wx X (rqCs K1 ks.length ck1 mo W1 ws.length cw1 (some ⟨g,0,none⟩) n cs1) 29∧wx.cell? ⟨g,k * 3 + 2,none⟩=some (.slice q.A q.s.srcs.length q.c)) (.p 0 (.q 1 (.p 2 (.p 3 (.q 4 (.p 5 (.p 6 (.p 7 (.q 8 (.e 9 (.p 10 (.p 11 (.b 12 .z))))))))))))) (by kernel_rfl) (by kernel_rfl) (fun _ hd=>⟨(S.below (hd.below _)).lv 0 rfl,(HC0.out _ (S.below (hd.below _))).1⟩) (fun KK hKK wd hd=>?_);replace S:=S.below (hd.below _);clear hd;refine mpT ?_;refine mixT_loadR (.slice (some ⟨g,0,none⟩) n cs1) rfl rfl rfl rfl (fun w' h=>loadC rfl (h.1.cell 3 _ rfl)) ?_;refine mpT ?_;refine mixT_loadR (.slice (some ⟨g,0,none⟩) n cs1) rfl rfl rfl rfl (fun w' h=>loadC rfl (h.1.cell 3 _ rfl)) ?_;refine mpT ?_;refine mixT_loadR (.slice q.A q.s.srcs.length q.c) rfl rfl rfl rfl (fun w' h=>loadC rfl h.2) ?_;refine mixT_l rfl rfl (fun K9 hK9=>?_);have Hcw:=Lib.hid (cloneW_any q.A q.s.srcs q.c wd (Hd.out q (List.mem_of_getElem? Hq.out) wd S.b) (H4.out q (List.mem_of_getElem? Hq.out)));have HS:=Lib.hid S;clear S;go_wp2_with fail
   refine (Hcw.out).mono ?_;rintro e w6 ⟨A6,c6,rfl,T⟩;have hcap6:q.s.srcs.length≤c6:=by
    rcases (T.ow 0 rfl).shape2 with ⟨e1,e2⟩ | ⟨g6,cap6,e1,e2⟩
    ·rw [e2];exact Nat.zero_le _
    ·simp only [Value.slice.injEq] at e1;rw [e1.2.2];exact e2
   obtain ⟨A2,c2,e2,S2⟩:=(HS.out.join T).frz 6 rfl;cases e2;have S:Mem w w6 [.loc X (rqCs K1 ks.length ck1 mo W1 ws.length cw1 (some ⟨g,0,none⟩) n cs1) 29,.loc Y jzCs 29,.sl rInt K1 ks,.sl rId W1 ws,.own rSQ B 124 (.slice (some ⟨g,0,none⟩) n cs1) zs,.sdat ys,.sl rStr A6 q.s.srcs]:=S2;have S3:Mem w w6 [.loc X (rqCs K1 ks.length ck1 mo W1 ws.length cw1 (some ⟨g,0,none⟩) n cs1) 29,.loc Y jzCs 29,.sl rInt K1 ks,.sl rId W1 ws,.own rSQ B 124 (.slice (some ⟨g,0,none⟩) n cs1) zs,.sdat ys]:=S.del 6;have hC:=(⟨S3.lv 0 rfl,(HC0.out _ S3).1⟩:LV w6 X (rqCs K1 ks.length ck1 mo W1 ws.length cw1 (some ⟨g,0,none⟩) n cs1) 29∧w6.cell? ⟨g,k * 3 + 2,none⟩=some (.slice q.A q.s.srcs.length q.c));have f2:=(HC0.out _ S3).2;have e0:=hC.2;clear HS Hcw T S2;go_wp2_with fail
   refine ⟨hC,?_⟩;clear hC;refine mpT ?_;refine mixT_b rfl rfl (fun K9 hK9=>?_);have S4:Mem w w6 [.loc X (rqCs K1 ks.length ck1 mo W1 ws.length cw1 (some ⟨g,0,none⟩) n cs1) 29,.loc Y jzCs 29,.sl rInt K1 ks,.sl rId W1 ws,.own rSQ B 124 (.slice (some ⟨g,0,none⟩) n cs1) zs,.sdat (ys++[(⟨q.s,A6,c6⟩:SQ)])]:=(S.turn 5 rfl (.sdat (ys++[(⟨q.s,A6,c6⟩:SQ)])) rfl (fun p hp=>by
    rcases List.mem_append.1 hp with hp | hp
    ·exact S.sdm 5 rfl p hp
    ·rw [List.mem_singleton.1 hp];exact ⟨hcap6,S.slc 6 rfl⟩)).del 6
   have S5:=S4.put flatSQ 4 rfl Hzl.out k q (⟨q.s,A6,c6⟩:SQ) Hzq.out 2 (by decide) (.slice A6 q.s.srcs.length c6) rfl;have HS5:=Lib.hid S5;clear S S3 S4 S5 hcap6;go_wp2_with fail
   refine ⟨trivial,?_⟩;refine mixT_nil ?_;simp only [Exit.then];refine hKK _ _ ?_;clear hKK KK e0 f2;have H1:Hid ((ys++[(⟨q.s,A6,c6⟩:SQ)]).map SQ.s=(qs.take (k + 1)).map SQ.s):=by
    show _=_;rw [take_snoc Hq.out,List.map_append,List.map_append,Hy.out];rfl
   have H2:Hid ((ys++[(⟨q.s,A6,c6⟩:SQ)]).length=k + 1):=by show _=_;rw [List.length_append,Hyl.out];rfl
   have H3:Hid (zs.set k (⟨q.s,A6,c6⟩:SQ)=(ys++[(⟨q.s,A6,c6⟩:SQ)])++qs.drop (k + 1)):=by
    have hkl:=lt_of_get Hq.out;have e1:qs.drop k=q::qs.drop (k + 1):=by
     rw [List.drop_eq_getElem_cons hkl];rw [List.getElem?_eq_getElem hkl] at Hq;rw [Option.some.inj Hq.out]
    show _=_;rw [Hz.out,e1,List.set_append_right _ _ (by have:=Hyl.out;omega),Hyl.out,Nat.sub_self,List.set_cons_zero];simp
   go_wp2_with fail
   go_roundw
   case rel =>
    go_simp;exact ⟨k + 1,by omega,by omega,_,(by show _=_;rw [← List.map_take];exact H1.out),H2,_,H3,(by rw [← Hzl.out];exact HS5.out)⟩
   case measure=>simp [intOf];omega
  ·obtain rfl:k=n:=by omega
   have hzy:zs=ys:=by rw [Hz.out,Hn.out,List.drop_length,List.append_nil]
   have hys:ys.map SQ.s=qs.map SQ.s:=by rw [Hy.out,Hn.out,List.take_length]
   obtain ⟨A2,c2,e2,S2⟩:=S.frz 4 rfl;rw [hzy] at e2 S2;have S3:Mem w wr [.loc X (rqCs K1 ks.length ck1 mo W1 ws.length cw1 S1 k cs1) 29,.loc Y jzCs 29,.sl rInt K1 ks,.sl rId W1 ws,.sl rSQ A2 ys,.sdat ys]:=S2;have S4:Mem w wr [.loc X (rqCs K1 ks.length ck1 mo W1 ws.length cw1 S1 k cs1) 29,.loc Y jzCs 29,.sl rInt K1 ks,.sl rId W1 ws,.sl rSrv A2 (ys.map SQ.s)]:=(S3.turn 4 rfl (.sl rSrv A2 (ys.map SQ.s)) rfl (slSrv (S3.slc 4 rfl) (S3.sdm 5 rfl))).del 5;simp only [Value.slice.injEq] at e2;obtain ⟨e3,e4,e5⟩:=e2;subst e3;clear e4 e5;have l0:=(S4.lv 0 rfl).all;have l1:=(S4.lv 1 rfl).all;have S8:=(((S4.set 1 0 (.slice K1 ks.length ck1) rfl).set 1 1 (.int .i64 mo) rfl).set 1 2 (.slice W1 ws.length cw1) rfl).set 1 3 (.slice S1 k cs1) rfl;have HS8:=Lib.hid S8;have Hys:=Lib.hid hys;clear S S2 S3 S4 S8 hzy hys;go_wp2_with fail
   exact bodyPost_ret (results_cell1 rfl rfl (loadRulV (HS8.out.lv 1 rfl))) rfl ⟨_,_,_,_,_,_,ys,by rw [← Hn.out],Hys.out,(HS8.out.del 0).del 0⟩
theorem copyR_any (r:Rul)(K W Sv:Option Addr)(ck cw cs:Nat)(w:World)(hK:Sl rInt (fun _=>False) w K r.kinds)(hW:Sl rId (fun _=>False) w W r.weak)(hS:Sl rSrv (fun _=>False) w Sv r.surv)(hr:RulSm r) :
  Calls Tryz.prog 72 #[.agg (ruCs r K ck W cw Sv cs)] w (GivesCR r w):=by
 obtain ⟨qs,hqs,hQ,hd⟩:=srv_q hS;have hl:r.surv.length=qs.length:=by rw [← hqs,List.length_map]
 have h:=copyQ_any r.kinds r.most r.weak qs K W Sv ck cw cs w hK hW hQ hd (Nat.le_trans hr.kl (by decide)) (Nat.le_trans hr.wl (by decide)) (by have:=hr.sl;omega) (fun q hq=>Nat.le_trans (hr.ss q.s (by rw [← hqs];exact List.mem_map_of_mem hq)).2.1 (by decide));rw [← hl] at h;refine h.mono ?_;rintro e w2 ⟨K1,ck1,W1,cw1,S1,cs1,zs,rfl,hz,S⟩;rw [hz,hqs] at S;exact ⟨K1,ck1,W1,cw1,S1,cs1,rfl,S⟩
end
end Go.Proofs.YtmkkppknaikjjaaGreatDoor
