/- Several texts in one: IdxRem, IdxAdd. -/
import Derived.Test.YtmkkppknaikjjaaGreatDoorPixA
import Derived.Test.YtmkkppknaikjjaaGreatDoorPixH
/- (*Index).Remove: the touch with a number is taken out. -/
namespace Go.Proofs.YtmkkppknaikjjaaGreatDoor
section
open Go Go.RowKit
structure IxOk (r:Rul) (qs:List TQ) (P:List Psn):Prop where
 rs:RulSm r
 rf:rulFault r=0
 sm:∀ q∈qs,TchSm q.t
 gd:GoodT (qs.map TQ.t)
 pp:IsPsns r (qs.map TQ.t) P
 pt:PsnTn P
theorem IxOk.apart {r:Rul}{qs:List TQ}{P:List Psn}(h:IxOk r qs P):Apart P:=psnsF_zero (psns_zero h.pp h.gd)
theorem GoodT.rt {r:Rul}(h1:RulSm r)(h2:rulFault r=0){ts:List Tch}(h:GoodT ts)(hl:ts.length≤20):RtOk r ts :=
 .mk2 h2 (Nat.le_trans h1.kl (by decide)) (by omega) (fun t ht=>⟨0,h.1 t ht⟩)
theorem ids_small {qs:List TQ}(h:∀ q∈qs,TchSm q.t):∀ t∈qs.map TQ.t,∀ x∈t.ids,x.t.size≤10000:=fun t ht x hx=>by
 obtain ⟨q,hq,rfl⟩:=List.mem_map.1 ht;exact (h q hq).it x hx
abbrev ixP (X:Nat)(r:Rul)(K:Option Addr)(ck:Nat)(W:Option Addr)(cw:Nat)(Sv:Option Addr)(cs:Nat)(L:Option Addr)(c:Nat)(qs:List TQ)(Pa:Option Addr)(cp:Nat)(P:List Psn)(ch:List Chunk):List Chunk :=
 .loc X (ixCs r K ck W cw Sv cs L qs.length c Pa P.length cp) 130::.sl rTQ L qs::.tdat qs::.sl rPsn Pa P::ch
def GivesBx (X:Nat)(r:Rul)(K:Option Addr)(ck:Nat)(W:Option Addr)(cw:Nat)(Sv:Option Addr)(cs:Nat)(P:List Psn)(qs2:List TQ)(w0:World)(ch:List Chunk)(v:Value)(w':World):Prop :=
 ∃ (L2:Option Addr) (c2:Nat) (A2:Option Addr) (p2:Nat) (now:List Psn) (A1:Option Addr) (c1:Nat) (l:List Shf),v=.slice A1 l.length c1∧IsShf P now l∧IxOk r qs2 now∧Mem w0 w' (ixP X r K ck W cw Sv cs L2 c2 qs2 A2 p2 now (ch++[.sl rShf A1 l]))
def GivesRem (X:Nat)(r:Rul)(K:Option Addr)(ck:Nat)(W:Option Addr)(cw:Nat)(Sv:Option Addr)(cs:Nat)(L:Option Addr)(c:Nat)(qs:List TQ)(Pa:Option Addr)(cp:Nat)(P:List Psn)(no:Int)(w0:World)(ch:List Chunk)(e:Ending)(w':World):Prop :=
 ((∀ q∈qs,q.t.no≠no)∧e=.returned (.tuple #[.slice none 0 0,.int .i64 8])∧Mem w0 w' (ixP X r K ck W cw Sv cs L c qs Pa cp P ch)) ∨
 ∃ (i:Nat) (q:TQ) (v:Value),qs[i]? =some q∧q.t.no=no∧e=.returned (.tuple #[v,.int .i64 0])∧GivesBx X r K ck W cw Sv cs P (qs.take i++qs.drop (i + 1)) w0 ch v w'
theorem becomeI_any {w0 w:World}(ch:List Chunk)(X:Nat)(r:Rul)(K W Sv L L2 Pa:Option Addr)(ck cw cs c c2 cp:Nat)(P:List Psn)(qs qs2:List TQ)(S:Mem w0 w (ixP X r K ck W cw Sv cs L c qs Pa cp P (ch++[.sl rTQ L2 qs2,.tdat qs2])))
  (hR:RulIn (fun _=>False) w r K W Sv) (ho:IxOk r qs P) (hl:qs2.length≤20) (hg:GoodT (qs2.map TQ.t)) (hs:∀ q∈qs2,TchSm q.t) :
  Calls Tryz.prog 81 #[.pointer (some ⟨X,0,none⟩),.slice L2 qs2.length c2] w fun e w'=>∃ v,e=.returned v∧GivesBx X r K ck W cw Sv cs P qs2 w0 ch v w':=by
 have hq:Sl rTQ (Mut w0.heap.size (ixP X r K ck W cw Sv cs L c qs Pa cp P (ch++[.sl rTQ L2 qs2,.tdat qs2]))) w L2 qs2:=S.ok (.sl rTQ L2 qs2) (by simp);have hd:TdOk (Mut w0.heap.size (ixP X r K ck W cw Sv cs L c qs Pa cp P (ch++[.sl rTQ L2 qs2,.tdat qs2]))) w qs2:=S.ok (.tdat qs2) (by simp);have hT:Sl rTch (fun _=>False) w L2 (qs2.map TQ.t):=(slTch hq hd).mono (fun _ _ h=>h.elim);have hP:Sl rPsn (fun _=>False) w Pa P:=(S.slc 3 rfl).mono (fun _ _ h=>h.elim);have h:=become_any _ X r K W Sv L L2 Pa ck cw cs qs.length c c2 cp P (qs2.map TQ.t) S hR hT hP (hg.rt ho.rs ho.rf (by rw [List.length_map];exact hl)) hg (by rw [List.length_map];exact hl) (ids_small hs) ho.apart ho.pt;rw [List.length_map] at h;refine h.mono ?_;rintro e w2 ⟨A1,c1,l,A2,p2,now,rfl,h1,h2,h3,T⟩;refine ⟨_,rfl,L2,c2,A2,p2,now,A1,c1,l,rfl,h3,⟨ho.rs,ho.rf,hs,hg,h1,h2⟩,?_⟩;rw [List.length_map] at T;have T2:Mem w0 w2 (.loc X (ixCs r K ck W cw Sv cs L2 qs2.length c2 A2 now.length p2) 130::((ch++[.sl rTQ L2 qs2,.tdat qs2])++[.sl rPsn A2 now,.sl rShf A1 l])):=(((T.del 1).del 1).del 1);refine T2.perm ?_;refine List.Perm.cons _ ?_;rw [List.append_assoc];refine List.perm_append_comm.trans ?_;simp only [List.cons_append,List.nil_append];exact .cons _ (.cons _ (.cons _ (List.perm_append_comm (l₁:=[Chunk.sl rShf A1 l]))))
set_option maxHeartbeats 8000000 in
set_option maxRecDepth 100000 in
theorem remove_any {w0 w:World}(ch:List Chunk)(X:Nat)(r:Rul)(K W Sv L Pa:Option Addr)(ck cw cs c cp:Nat)(P:List Psn)(qs:List TQ)(no:Int)(S:Mem w0 w (ixP X r K ck W cw Sv cs L c qs Pa cp P ch))
  (hR:RulIn (fun _=>False) w r K W Sv) (ho:IxOk r qs P) (hl:qs.length≤19) :
  Calls Tryz.prog 24 #[.pointer (some ⟨X,0,none⟩),.int .i64 no] w (GivesRem X r K ck W cw Sv cs L c qs Pa cp P no w0 ch):=by
 have hq:=(S.slc 1 rfl).mono (M:=fun _=>False) (fun _ _ h=>h.elim);have hd:TdOk (fun _=>False) w qs:=fun q h=>by
  have:=(S.ok (.tdat qs) (.tail _ (.tail _ (.head _)))) q h
  exact ⟨this.1.mono (fun _ _ h=>h.elim),this.2.mono (fun _ _ h=>h.elim)⟩
 have hnum:=numberedS_any (fun _=>False) L (qs.map TQ.t) no c w (slTch hq hd) (by rw [List.length_map];omega) ho.gd.up;rw [List.length_map] at hnum;have Hn:=Lib.hid hnum;have HQ:=Lib.hid (fun w' (h:Below w.heap.size w w')=>hq.keepB h);have HR:=Lib.hid (fun w' (h:Below w.heap.size w w')=>hR.keepB h);have Ho:Hid (IxOk r qs P):=ho;have HS:=Lib.hid S;have l0:=(S.lv 0 rfl).all;clear hq hd hnum hR ho S;go_enter Tryz.func24,Tryz.ntmps24
 go_wp2_with fail
 refine (Hn.out).mono ?_;rintro e w2 ⟨i,b,rfl,hp,hb⟩;have Hp:=Lib.hid hp;have HS2:=Lib.hid (HS.out.below hb);have Hb:=Lib.hid hb;clear hp l0 hb HS Hn;cases b
 ·go_wp2_with fail
  refine bodyPost_ret (results_two rfl rfl rfl) rfl (.inl ⟨fun q hq=>?_,rfl,HS2.out⟩);exact plc_none Ho.out.gd Hp.out q.t (List.mem_map_of_mem hq)
 ·obtain ⟨s,hs,hno⟩:=plc_here Hp.out;rw [List.getElem?_map] at hs;obtain ⟨q,hq,rfl⟩:∃ q,qs[i]? =some q∧q.t=s:=by
   cases h:qs[i]? with
   | none=>rw [h] at hs;cases hs
   | some q=>rw [h] at hs;exact ⟨q,rfl,Option.some.inj hs⟩
  have hil:=lt_of_get hq;have Hq:=Lib.hid hq;have Hno:=Lib.hid hno;have Hc:=Lib.hid (cloneT_any L qs c w2 (HQ.out w2 Hb.out) (by omega));have l0:=(HS2.out.lv 0 rfl).all;have hw3:IntKind.i64.wrap ((i:Int) + 1)=(i:Int) + 1:=by rw [IntKind.wrap_i64];omega
  clear hs hno hq;go_wp2_with fail
  refine (Hc.out).mono ?_;rintro e w3 ⟨A3,c3,rfl,T3⟩;obtain ⟨g,cap,e,hcap⟩:=(T3.ow 0 rfl).form (by omega);simp only [Value.slice.injEq] at e;obtain ⟨e1,_,e3⟩:=e;subst e1 e3;obtain ⟨B,hB⟩:∃ B,B=w2.heap.size:=⟨_,rfl⟩;rw [← hB] at T3;have Hd:=Lib.hid (delTq_any i T3 rfl hil (by omega));clear hB T3 hcap Hc l0;go_wp2_with fail
  refine (Hd.out).mono ?_;rintro e w4 ⟨rfl,T4⟩;have Hb4:=Lib.hid (Hb.out.trans (T4.b.mono Hb.out.size));have Hsub:Hid (∀ y∈qs.take i++qs.drop (i + 1),y∈qs):=fun y hy=>by
   rcases List.mem_append.1 hy with hy | hy
   ·exact List.mem_of_mem_take hy
   ·exact List.mem_of_mem_drop hy
  have Hg2:Hid (GoodT ((qs.take i++qs.drop (i + 1)).map TQ.t)):=by
   have:=Ho.out.gd.del i
   rw [List.map_append,List.map_take,List.map_drop];exact this
  have Hl2:Hid ((qs.take i++qs.drop (i + 1)).length≤20):=by show _≤_;rw [List.length_append,List.length_take,List.length_drop];omega
  have Hfin:Hid (∀ v w',GivesBx X r K ck W cw Sv cs P (qs.take i++qs.drop (i + 1)) w0 ch v w'→GivesRem X r K ck W cw Sv cs L c qs Pa cp P no w0 ch (.returned (.tuple #[v,.int .i64 0])) w'):=fun v w' h=>.inr ⟨i,q,v,Hq.out,Hno.out,rfl,h⟩;obtain ⟨qs2,hqs2⟩:∃ qs2,qs.take i++qs.drop (i + 1)=qs2:=⟨_,rfl⟩;rw [hqs2] at T4 Hsub Hg2 Hl2 Hfin ⊢;obtain ⟨A5,c5,e5,T5⟩:=T4.frz 0 rfl;simp only [Value.slice.injEq] at e5;obtain ⟨e6,_,e7⟩:=e5;subst e6 e7;have T6:Mem w0 w4 (.sl rTQ (some ⟨g,0,none⟩) qs2::ixP X r K ck W cw Sv cs L c qs Pa cp P ch):=(HS2.out.join T5).front;have T7:Mem w0 w4 (.tdat []::.sl rTQ (some ⟨g,0,none⟩) qs2::ixP X r K ck W cw Sv cs L c qs Pa cp P ch):=(T6.call (Below.refl _ _) (.tdat []) (fun q hq=>by cases hq) (fun k e=>by cases e)).front;have T8:Mem w0 w4 (.tdat qs2::.sl rTQ (some ⟨g,0,none⟩) qs2::ixP X r K ck W cw Sv cs L c qs Pa cp P ch):=T7.turn 0 rfl (.tdat qs2) rfl (fun q hq=>(T7.ok (.tdat qs) (.tail _ (.tail _ (.tail _ (.tail _ (.head _)))))) q (Hsub.out q hq));have T9:Mem w0 w4 (ixP X r K ck W cw Sv cs L c qs Pa cp P (ch++[.sl rTQ (some ⟨g,0,none⟩) qs2,.tdat qs2])):=(T8.perm (List.Perm.swap _ _ _)).perm (List.perm_append_comm (l₁:=[Chunk.sl rTQ (some ⟨g,0,none⟩) qs2,Chunk.tdat qs2]));have Hbc:=Lib.hid (becomeI_any (c2:=c3) ch X r K W Sv L (some ⟨g,0,none⟩) Pa ck cw cs c cp P qs qs2 T9 (HR.out w4 Hb4.out) Ho.out Hl2.out Hg2.out (fun q hq=>Ho.out.sm q (Hsub.out q hq)));clear hqs2 T4 T5 T6 T7 T8 T9 HS2;go_wp2_with fail
  refine (Hbc.out).mono ?_;rintro e w5 ⟨v,rfl,hv⟩;have Hv:=Lib.hid hv;clear hv Hbc;go_wp2_with fail
  exact bodyPost_ret (results_two rfl rfl rfl) rfl (Hfin.out _ _ Hv.out)
end
section
open Go Go.RowKit
def GivesAdd (X:Nat)(r:Rul)(K:Option Addr)(ck:Nat)(W:Option Addr)(cw:Nat)(Sv:Option Addr)(cs:Nat)(L:Option Addr)(c:Nat)(qs:List TQ)(Pa:Option Addr)(cp:Nat)(P:List Psn)(t:Tch)(w0:World)(ch:List Chunk)(e:Ending)(w':World):Prop :=
 (tchFault t 0≠0∧e=.returned (.tuple #[.slice none 0 0,.int .i64 (tchFault t 0)])∧Mem w0 w' (ixP X r K ck W cw Sv cs L c qs Pa cp P ch)) ∨
 (tchFault t 0=0∧(∃ q∈qs,q.t.no=t.no)∧e=.returned (.tuple #[.slice none 0 0,.int .i64 6])∧Mem w0 w' (ixP X r K ck W cw Sv cs L c qs Pa cp P ch)) ∨
 (tchFault t 0=0∧∃ (i:Nat) (x:TQ) (v:Value),x.t=t∧IsPlc (qs.map TQ.t) t.no i false∧e=.returned (.tuple #[v,.int .i64 0])∧GivesBx X r K ck W cw Sv cs P (qs.take i++x::qs.drop i) w0 ch v w')
theorem loadAtTc {w:World}{X:Nat}{a b c d e:Value}(h:LV w X #[a,b,c,d,e] 58):(Instr.loadAt 58 (.pointer (some ⟨X,0,none⟩))).run Tryz.prog w=.ok (.agg #[a,b,c,d,e]) w:=by
 have c0:=h.all;go_simp
set_option maxHeartbeats 8000000 in
set_option maxRecDepth 100000 in
theorem add_any {w0 w:World}(ch:List Chunk)(X:Nat)(r:Rul)(K W Sv L Pa:Option Addr)(ck cw cs c cp:Nat)(P:List Psn)(qs:List TQ)(t:Tch)(A B:Option Addr)(ca cb:Nat)(S:Mem w0 w (ixP X r K ck W cw Sv cs L c qs Pa cp P ch))
  (hR:RulIn (fun _=>False) w r K W Sv) (ho:IxOk r qs P) (hl:qs.length≤19) (hA:Sl rId (fun _=>False) w A t.ids) (hB:Sl rFld (fun _=>False) w B t.flds) (ht:TchSm t) (hU:Tabs w) (hM:MaxL w) :
  Calls Tryz.prog 27 #[.pointer (some ⟨X,0,none⟩),.agg (tcCs t A ca B cb)] w (GivesAdd X r K ck W cw Sv cs L c qs Pa cp P t w0 ch):=by
 have hq:=(S.slc 1 rfl).mono (M:=fun _=>False) (fun _ _ h=>h.elim);have hd:TdOk (fun _=>False) w qs:=fun q h=>by
  have:=(S.ok (.tdat qs) (.tail _ (.tail _ (.head _)))) q h
  exact ⟨this.1.mono (fun _ _ h=>h.elim),this.2.mono (fun _ _ h=>h.elim)⟩
 have Hn:Hid (∀ w',Below w.heap.size w w'→Calls Tryz.prog 80 #[.slice L qs.length c,.int .i64 t.no] w' (GivesPlcS (qs.map TQ.t) t.no w')):=fun w' h=>by
  have hnum:=numberedS_any (fun _=>False) L (qs.map TQ.t) t.no c w' ((slTch hq hd).keepB h) (by rw [List.length_map];omega) ho.gd.up;rw [List.length_map] at hnum;exact hnum
 have HQ:=Lib.hid (fun w' (h:Below w.heap.size w w')=>hq.keepB h);have HR:=Lib.hid (fun w' (h:Below w.heap.size w w')=>hR.keepB h);have Hck:=Lib.hid (fun w' (h:Below w.heap.size w w')=>checkTouch_any (fun _=>False) A B ca cb t 0 w' (hA.keepB h) (hB.keepB h) ht.ok (Utf8Tabs_below hU h) (hM.below h));have Hct:=Lib.hid (fun w' (h:Below w.heap.size w w')=>copyT_any t A B ca cb w' (hA.keepB h) (hB.keepB h) (Nat.le_trans ht.il (by decide)) (Nat.le_trans ht.fl (by decide)));have Hht:=Lib.hid ht;have Ho:Hid (IxOk r qs P):=ho;obtain ⟨Y,hY⟩:∃ Y,Y=w.heap.size:=⟨_,rfl⟩;have S1:Mem w0 _ (.loc Y (tcCs t A ca B cb) 58::ixP X r K ck W cw Sv cs L c qs Pa cp P ch):=(S.newAt (tcCs t A ca B cb) 58 Y hY).front;have hb1:Below w.heap.size w (w.alloc (.cells (tcCs t A ca B cb) 58)):=(Below.refl _ _).alloc (Nat.le_refl _) _;obtain ⟨F,hF⟩:∃ F,tchFault t 0=F:=⟨_,rfl⟩;rw [hF] at Hck;have HF:=Lib.hid hF;clear hq hd hR ho S hA hB ht hU hM hF;go_enter Tryz.func27,Tryz.ntmps27
 go_upto_region 1 with fail
 rw [← hY];clear hY;generalize w.alloc (.cells (tcCs t A ca B cb) 58)=w1 at *;have y0:=(S1.lv 0 rfl).all;go_wp2_with fail
 refine (Hck.out w1 hb1).mono ?_;rintro e w2 ⟨rfl,hl2⟩;have hb2:=hb1.trans (hl2.mono hb1.size);have S2:=S1.below hl2;clear y0 hl2 S1 hb1 Hck;by_cases hE:F=0
 ·have HF0:Hid (tchFault t 0=0):=HF.out.trans hE;subst hE;go_upto_region 4 with fail
  refine wp_region_mixT [] (fun wx=>LV wx X (ixCs r K ck W cw Sv cs L qs.length c Pa P.length cp) 130∧LV wx Y (tcCs t A ca B cb) 58) (.p 0 (.p 1 (.p 2 (.q 3 (.p 4 (.q 5 (.e 6 (.p 7 (.p 8 (.p 9 (.p 10 (.p 11 .z)))))))))))) (by kernel_rfl) (by kernel_rfl) (fun _ hd=>⟨(S2.below (hd.below _)).lv 1 rfl,(S2.below (hd.below _)).lv 0 rfl⟩) (fun KK hKK wd hd=>?_);have S:=S2.below (hd.below _);have hbd:=hb2.trans (hd.below w.heap.size);clear hd S2 hb2;refine mpT ?_;refine mixT_loadR (.slice L qs.length c) rfl rfl rfl rfl (fun w' h=>loadC rfl (h.1.cell 4 _ rfl)) ?_;refine mpT ?_;refine mixT_loadR (.int .i64 t.no) rfl rfl rfl rfl (fun w' h=>loadC rfl (h.2.cell 0 _ rfl)) ?_;refine mixT_l rfl rfl (fun K9 hK9=>?_);have HS:=Lib.hid S;clear S;go_wp2_with fail
  refine (Hn.out wd hbd).mono ?_;rintro e w3 ⟨i,b,rfl,hp,hb⟩;have Hp:=Lib.hid hp;have S:=HS.out.below hb;have Hb3:=Lib.hid (hbd.trans (hb.mono hbd.size));have hC:=(⟨S.lv 1 rfl,S.lv 0 rfl⟩:LV w3 X (ixCs r K ck W cw Sv cs L qs.length c Pa P.length cp) 130∧LV w3 Y (tcCs t A ca B cb) 58);clear HS hb hp Hn hbd;go_wp2_with fail
  refine ⟨hC,?_⟩;clear hC;refine mpT ?_;refine mixT_nil ?_;simp only [Exit.then];refine hKK _ _ ?_;clear hKK KK;cases b
  ·have hn2:¬ ((2000:Int)≤(qs.length:Int)):=by omega
   have hil:i≤qs.length:=by have:=Hp.out.1;rwa [List.length_map] at this
   have l0:=(S.lv 1 rfl).all;go_upto_region 9 with fail
   clear l0;refine wp_region_mixT [11] (fun wx=>LV wx X (ixCs r K ck W cw Sv cs L qs.length c Pa P.length cp) 130∧LV wx Y (tcCs t A ca B cb) 58) (.p 0 (.p 1 (.p 2 (.p 3 (.q 4 (.p 6 (.q 7 (.e 5 (.e 8 (.e 9 (.e 10 (.b 11 (.p 12 (.p 13 .z)))))))))))))) (by kernel_rfl) (by kernel_rfl) (fun _ hd=>⟨(S.below (hd.below _)).lv 1 rfl,(S.below (hd.below _)).lv 0 rfl⟩) (fun KK hKK wd hd=>?_);have HS:Hid (Mem w0 wd (.loc Y (tcCs t A ca B cb) 58::ixP X r K ck W cw Sv cs L c qs Pa cp P ch)):=S.below (hd.below _);have Hbd:=Lib.hid (Hb3.out.trans (hd.below w.heap.size));clear hd S Hb3;refine mpT ?_;refine mixT_loadR (.slice L qs.length c) rfl rfl rfl rfl (fun w' h=>loadC rfl (h.1.cell 4 _ rfl)) ?_;refine mpT ?_;refine mixT_loadR (.agg (tcCs t A ca B cb)) rfl rfl rfl rfl (fun w' h=>loadAtTc h.2) ?_;refine mixT_l rfl rfl (fun K9 hK9=>?_);have Hc:=Lib.hid (cloneT_any L qs c wd (HQ.out wd Hbd.out) (by omega));go_wp2_with fail
   refine (Hc.out).mono ?_;rintro e w4 ⟨A3,c3,rfl,T3⟩;have HS4:=HS.out.join T3;have hC:=(⟨HS4.lv 1 rfl,HS4.lv 0 rfl⟩:LV w4 X (ixCs r K ck W cw Sv cs L qs.length c Pa P.length cp) 130∧LV w4 Y (tcCs t A ca B cb) 58);clear HS4 Hc;go_wp2_with fail
   refine ⟨hC,?_⟩;clear hC;refine mixT_l rfl rfl (fun K9 hK9=>?_);have Hct4:=Lib.hid (Hct.out w4 (Hbd.out.trans (T3.b.mono Hbd.out.size)));have HT3:=Lib.hid T3;clear T3 Hct;go_wp2_with fail
   refine (Hct4.out).mono ?_;rintro e w5 ⟨A1,c1,B1,d1,rfl,T4⟩;have HT4:=Lib.hid (HT3.out.join T4);have HS5:=HS.out.join HT4.out;have hC:=(⟨HS5.lv 1 rfl,HS5.lv 0 rfl⟩:LV w5 X (ixCs r K ck W cw Sv cs L qs.length c Pa P.length cp) 130∧LV w5 Y (tcCs t A ca B cb) 58);clear HS5 HT3 T4 Hct4;go_wp2_with fail
   refine ⟨hC,?_⟩;clear hC;refine mixT_l rfl rfl (fun K9 hK9=>?_);obtain ⟨x,hx⟩:∃ x:TQ,x=⟨t,A1,c1,B1,d1⟩:=⟨_,rfl⟩;obtain ⟨Z,hZ⟩:∃ Z,Z=w5.heap.size:=⟨_,rfl⟩;have HT5:Hid (Mem wd _ ([.own rTQ wd.heap.size 58 (.slice A3 qs.length c3) qs,.sl rId A1 t.ids,.sl rFld B1 t.flds]++[.loc Z (tcCs t A1 c1 B1 d1) 58])):=HT4.out.newAt (tcCs t A1 c1 B1 d1) 58 Z hZ;go_wp2_with fail
   rw [← hZ];clear hZ;generalize World.alloc _ _=w6 at HT5 ⊢;have HS6:=HS.out.join HT5.out;refine ⟨⟨HS6.lv 1 rfl,HS6.lv 0 rfl⟩,?_⟩;clear HS6 HT4;refine mixT_l rfl rfl (fun K9 hK9=>?_);have T6:Mem wd w6 (.own rTQ wd.heap.size 58 (.slice A3 qs.length c3) qs::.loc Z (tqCs x) 58::[.sl rId A1 t.ids,.sl rFld B1 t.flds]):=by
    rw [hx];exact HT5.out.perm (.cons _ (List.perm_append_comm (l₁:=[Chunk.sl rId A1 t.ids,Chunk.sl rFld B1 t.flds])))
   have Hin:=Lib.hid (insTq_any i x Z T6 T6.b.size (by omega) hil);have hxt:x.t=t:=by rw [hx]
   have Hx:=Lib.hid hx;clear T6 HT5 hx;go_wp2_with fail
   refine (Hin.out).mono ?_;rintro e w7 ⟨v7,rfl,T7⟩;have HS7:=HS.out.join T7;have hC:=(⟨HS7.lv 1 rfl,HS7.lv 0 rfl⟩:LV w7 X (ixCs r K ck W cw Sv cs L qs.length c Pa P.length cp) 130∧LV w7 Y (tcCs t A ca B cb) 58);have Hb7:=Lib.hid (Hbd.out.trans (T7.b.mono Hbd.out.size));have Hsub:Hid (∀ y∈qs.take i++x::qs.drop i,y∈qs∨y=x):=fun y hy=>by
    rcases List.mem_append.1 hy with hy | hy
    ·exact .inl (List.mem_of_mem_take hy)
    ·rcases List.mem_cons.1 hy with rfl | hy
     ·exact .inr rfl
     ·exact .inl (List.mem_of_mem_drop hy)
   have Hg2:Hid (GoodT ((qs.take i++x::qs.drop i).map TQ.t)):=by
    have:=Ho.out.gd.ins (u:=t) HF0.out Hp.out
    rw [List.map_append,List.map_cons,List.map_take,List.map_drop,hxt];exact this
   have Hl2:Hid ((qs.take i++x::qs.drop i).length≤20):=by show _≤_;rw [List.length_append,List.length_cons,List.length_take,List.length_drop];omega
   have Hfin:Hid (∀ v w',GivesBx X r K ck W cw Sv cs P (qs.take i++x::qs.drop i) w0 ch v w'→GivesAdd X r K ck W cw Sv cs L c qs Pa cp P t w0 ch (.returned (.tuple #[v,.int .i64 0])) w'):=fun v w' h=>.inr (.inr ⟨HF0.out,i,x,v,hxt,Hp.out,rfl,h⟩);obtain ⟨qs2,hqs2⟩:∃ qs2,qs.take i++x::qs.drop i=qs2:=⟨_,rfl⟩;rw [hqs2] at T7 Hsub Hg2 Hl2 Hfin;obtain ⟨L2,c2,e7,T8⟩:=T7.frz 0 rfl;subst e7;have T9:Mem wd w7 [.sl rTQ L2 qs2,.sl rId A1 t.ids,.sl rFld B1 t.flds]:=Mem.del T8 1;have U1:Mem w0 w7 (.sl rTQ L2 qs2::.sl rId A1 t.ids::.sl rFld B1 t.flds::ixP X r K ck W cw Sv cs L c qs Pa cp P ch):=((HS.out.del 0).join T9).perm List.perm_append_comm;have U2:Mem w0 w7 (.tdat []::.sl rTQ L2 qs2::.sl rId A1 t.ids::.sl rFld B1 t.flds::ixP X r K ck W cw Sv cs L c qs Pa cp P ch):=(U1.call (Below.refl _ _) (.tdat []) (fun q hq=>by cases hq) (fun k e=>by cases e)).front;have U3:Mem w0 w7 (.tdat qs2::.sl rTQ L2 qs2::.sl rId A1 t.ids::.sl rFld B1 t.flds::ixP X r K ck W cw Sv cs L c qs Pa cp P ch):=U2.turn 0 rfl (.tdat qs2) rfl (fun q hq=>by
    rcases Hsub.out q hq with h | h
    ·exact (U2.ok (.tdat qs) (.tail _ (.tail _ (.tail _ (.tail _ (.tail _ (.tail _ (.head _)))))))) q h
    ·rw [h,Hx.out];exact ⟨U2.slc 2 rfl,U2.slc 3 rfl⟩)
   have U4:Mem w0 w7 (.tdat qs2::.sl rTQ L2 qs2::ixP X r K ck W cw Sv cs L c qs Pa cp P ch):=(U3.del 2).del 2;have U5:Mem w0 w7 (ixP X r K ck W cw Sv cs L c qs Pa cp P (ch++[.sl rTQ L2 qs2,.tdat qs2])):=(U4.perm (List.Perm.swap _ _ _)).perm (List.perm_append_comm (l₁:=[Chunk.sl rTQ L2 qs2,Chunk.tdat qs2]));have Hbc:=Lib.hid (becomeI_any (c2:=c2) ch X r K W Sv L L2 Pa ck cw cs c cp P qs qs2 U5 (HR.out w7 Hb7.out) Ho.out Hl2.out Hg2.out (fun q hq=>by
    rcases Hsub.out q hq with h | h
    ·exact Ho.out.sm q h
    ·rw [h,hxt];exact Hht.out))
   clear hqs2 T7 T8 T9 U1 U2 U3 U4 U5 HS7 HS Hin hxt;go_wp2_with fail
   refine ⟨hC,?_⟩;clear hC;refine mixT_b rfl rfl (fun K9 hK9=>?_);go_wp2_with fail
   refine (Hbc.out).mono ?_;rintro e w8 ⟨v,rfl,hv⟩;have Hv:=Lib.hid hv;clear hv Hbc;go_wp2_with fail
   refine ⟨trivial,?_⟩;refine mpT ?_;refine mixT_nil ?_;simp only [Exit.then];refine hKK _ _ ?_;clear hKK KK;go_wp2_with fail
   exact bodyPost_ret (results_two rfl rfl rfl) rfl (Hfin.out _ _ Hv.out)
  ·have HS:Hid (Mem w0 w3 (ixP X r K ck W cw Sv cs L c qs Pa cp P ch)):=S.del 0;clear S;go_wp2_with fail
   refine bodyPost_ret (results_two rfl rfl rfl) rfl (.inr (.inl ⟨HF0.out,?_,rfl,HS.out⟩));obtain ⟨s,hs,hno⟩:=plc_here Hp.out;obtain ⟨q,hq,rfl⟩:=List.mem_map.1 (List.mem_of_getElem? hs);exact ⟨q,hq,hno⟩
 ·have HS:Hid (Mem w0 w2 (ixP X r K ck W cw Sv cs L c qs Pa cp P ch)):=S2.del 0;clear S2;go_wp2_with fail
  exact bodyPost_ret (results_two rfl rfl rfl) rfl (.inl ⟨fun h=>hE (HF.out.symm.trans h),by rw [HF.out];rfl,HS.out⟩)
end
end Go.Proofs.YtmkkppknaikjjaaGreatDoor
