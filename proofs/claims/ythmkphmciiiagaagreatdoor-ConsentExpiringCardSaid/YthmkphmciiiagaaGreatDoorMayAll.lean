/- What consent's ask, checkAll and May return, at all statements. -/
import Derived.Test.YthmkphmciiiagaaGreatDoorAnswer
namespace Go.Proofs.YthmkphmciiiagaaGreatDoor
open Go Go.RowKit
def GivesAsk (tm : PTerm) (is : Bool) (k : Int) (t : ByteArray) (ch : Int) (pu : ByteArray) (l : List Stm) (w : World) (e : Ending) (w' : World) : Prop :=
  ∃ A U c, e = .returned (.agg (askCs tm is pu A U.length c)) ∧ IsOf k t ch l U ∧ (U.length ≤ c ∧ (A = none → c = 0) ∧ ∀ a, A = some a → a.spot = none) ∧ Sl rStm (Lt w.heap.size) w' A U ∧ Below w.heap.size w w'
abbrev askZ : Array Value := #[.string ⟨#[]⟩, .int .i64 0, .bool false, .int .i64 0, .int .i64 0, .bool false, .string ⟨#[]⟩, .slice none 0 0]
abbrev idCs (k : Int) (t : ByteArray) : Array Value := #[.int .i64 k, .string t]
set_option maxHeartbeats 4000000 in
set_option maxRecDepth 100000 in
theorem ask_any (N : Nat → Prop) (A Al : Option Addr) (p : List Purp) (l : List Stm) (c cl : Nat) (pu rg : ByteArray) (ch at' k : Int) (t : ByteArray) (w : World) (hS : Sl rPurp N w A p) (hg : GoodPol p) (hL : Sl rStm N w Al l) (hl : l.length ≤ 19) (hno : l.Pairwise (fun a b => a.no < b.no)) :
    Calls Tryz.prog 58 #[.agg (qCs A p.length c pu rg ch at'), .slice Al l.length cl, .agg #[.int .i64 k, .string t]] w (GivesAsk ((termAt p pu rg ch).getD tZero) (termAt p pu rg ch).isSome k t ch pu l w) := by
  have Ht := Lib.hid (fun w' (h : Below w.heap.size w w') => termOf_any N A p pu rg ch c w' (hS.keepB h) hg)
  have Hs := Lib.hid (fun w' (h : Below w.heap.size w w') => saidBy_any N Al l cl k t ch w' (hL.keepB h) hl hno)
  generalize (termAt p pu rg ch).getD tZero = tm at *
  generalize (termAt p pu rg ch).isSome = is at *
  clear hS hg hL hno
  have S := (((Mem.start w).new' (qCs A p.length c pu rg ch at') 96).new' (idCs k t) 29).new' askZ 102
  replace S : Mem w (((w.alloc (.cells (qCs A p.length c pu rg ch at') 96)).alloc (.cells (idCs k t) 29)).alloc (.cells askZ 102)) [.loc w.heap.size (qCs A p.length c pu rg ch at') 96, .loc (w.heap.size + 1) (idCs k t) 29, .loc (w.heap.size + 1 + 1) askZ 102] := by simpa using S
  go_enter Tryz.func58, Tryz.ntmps58
  go_wp2_with fail
  generalize (((w.alloc (.cells (qCs A p.length c pu rg ch at') 96)).alloc (.cells (idCs k t) 29)).alloc (.cells askZ 102)) = w1 at *
  ((with_reducible refine (Ht.out w1 S.b).mono ?_); rintro e w2 ⟨rfl, hl2⟩)
  replace S := S.below hl2
  clear hl2 Ht
  go_upto_region 2 with fail
  obtain ⟨Y, hY⟩ : ∃ Y, Y = w2.heap.size := ⟨_, rfl⟩
  replace S := S.newAt (tCs tm) 99 Y hY
  rw [← hY]
  clear hY
  generalize w2.alloc (.cells (tCs tm) 99) = w3 at *
  go_wp2_with fail
  have hCl : ∀ {wx : World}, Mem w wx [.loc w.heap.size (qCs A p.length c pu rg ch at') 96, .loc (w.heap.size + 1) (idCs k t) 29, .loc (w.heap.size + 1 + 1) askZ 102, .loc Y (tCs tm) 99] → LV wx w.heap.size (qCs A p.length c pu rg ch at') 96 ∧ LV wx (w.heap.size + 1) #[.int .i64 k, .string t] 29 ∧ tLV wx Y tm := fun S => ⟨S.lv 0 rfl, S.lv 1 rfl, S.lv 3 rfl⟩
  refine wp_region_mixG 10 (fun w' => LV w' w.heap.size (qCs A p.length c pu rg ch at') 96 ∧ LV w' (w.heap.size + 1) #[.int .i64 k, .string t] 29 ∧ tLV w' Y tm) [.q 0, .q 1, .q 2, .q 3, .q 4, .q 5, .q 6, .q 7, .e 8, .q 9, .e 10] (by kernel_rfl) (by kernel_rfl) (fun w' hd => hCl (S.below (hd.below _))) (fun KK hKK wd hd => ?_)
  replace S := S.below (hd.below _)
  clear hd
  refine mixG_loadR (tVal tm) rfl rfl rfl rfl (fun w' h => tLV.load h.2.2) ?_
  repeat (refine mixG_p rfl (fun K hK => ?_); go_simp; (try go_bits); (try simp (disch := omega) only [if_pos]); (try simp (disch := omega) only [if_neg]); (try simp (disch := omega) only [dif_pos]); (try simp (disch := omega) only [dif_neg]); (try go_simp); (refine hK _ ?_; clear hK K))
  refine mixG_load (.string pu) rfl rfl rfl rfl (fun _ => rfl) (fun w' h => h.1.cell 1 _ rfl) ?_
  repeat (refine mixG_p rfl (fun K hK => ?_); go_simp; (try go_bits); (try simp (disch := omega) only [if_pos]); (try simp (disch := omega) only [if_neg]); (try simp (disch := omega) only [dif_pos]); (try simp (disch := omega) only [dif_neg]); (try go_simp); (refine hK _ ?_; clear hK K))
  refine mixG_loadR (.agg #[.int .i64 k, .string t]) rfl rfl rfl rfl (fun w' h => loadIdI h.2.1) ?_
  repeat (refine mixG_p rfl (fun K hK => ?_); go_simp; (try go_bits); (try simp (disch := omega) only [if_pos]); (try simp (disch := omega) only [if_neg]); (try simp (disch := omega) only [dif_pos]); (try simp (disch := omega) only [dif_neg]); (try go_simp); (refine hK _ ?_; clear hK K))
  refine mixG_load (.int .i64 ch) rfl rfl rfl rfl (fun _ => rfl) (fun w' h => h.1.cell 3 _ rfl) ?_
  refine mixG_l rfl rfl (fun K hK => ?_)
  have hszd := S.b.size
  have hXd := (S.ge 2 rfl).2
  go_wp2_with fail
  ((with_reducible refine (Hs.out wd S.b).mono ?_); rintro e w4 ⟨Au, U, cu, rfl, hU, hc, hSU, hl4⟩)
  replace S := S.below hl4
  have HU := Lib.hid hU
  have Hc := Lib.hid hc
  have HSU : Hid (Sl rStm (Lt w.heap.size) w4 Au U) := hSU.mono (fun q _ h => Nat.lt_of_lt_of_le h hszd)
  have HSU2 : Hid (Sl rStm (Lt wd.heap.size) w4 Au U) := hSU
  clear hl4 Hs hU hc hSU
  have hC4 := hCl S
  go_wp2_with fail
  refine ⟨fun _ => hC4, ?_⟩
  clear hC4 hCl
  repeat (refine mixG_p rfl (fun K hK => ?_); go_simp; (try go_bits); (try simp (disch := omega) only [if_pos]); (try simp (disch := omega) only [if_neg]); (try simp (disch := omega) only [dif_pos]); (try simp (disch := omega) only [dif_neg]); (try go_simp); (refine hK _ ?_; clear hK K))
  have nR := S.lv 2 rfl
  have x0 := nR.all
  refine mixG_l rfl rfl (fun K hK => ?_)
  go_wp2_with fail
  refine ⟨fun h => absurd rfl h, ?_⟩
  refine mixG_nil ?_
  simp only [Exit.then]
  refine hKK _ _ ?_
  clear x0
  go_wp2_with fail
  have h0 := nR.set 0 (.string tm.region) #[.string tm.region, .int .i64 0, .bool false, .int .i64 0, .int .i64 0, .bool false, .string ⟨#[]⟩, .slice none 0 0] rfl
  have h1 := h0.set 1 (.int .i64 tm.channel) #[.string tm.region, .int .i64 tm.channel, .bool false, .int .i64 0, .int .i64 0, .bool false, .string ⟨#[]⟩, .slice none 0 0] rfl
  have h2 := h1.set 2 (.bool tm.free) #[.string tm.region, .int .i64 tm.channel, .bool tm.free, .int .i64 0, .int .i64 0, .bool false, .string ⟨#[]⟩, .slice none 0 0] rfl
  have h3 := h2.set 3 (.int .i64 tm.days) #[.string tm.region, .int .i64 tm.channel, .bool tm.free, .int .i64 tm.days, .int .i64 0, .bool false, .string ⟨#[]⟩, .slice none 0 0] rfl
  have h4 := h3.set 4 (.int .i64 tm.wait) #[.string tm.region, .int .i64 tm.channel, .bool tm.free, .int .i64 tm.days, .int .i64 tm.wait, .bool false, .string ⟨#[]⟩, .slice none 0 0] rfl
  have h5 := h4.set 5 (.bool is) #[.string tm.region, .int .i64 tm.channel, .bool tm.free, .int .i64 tm.days, .int .i64 tm.wait, .bool is, .string ⟨#[]⟩, .slice none 0 0] rfl
  have h6 := h5.set 6 (.string pu) #[.string tm.region, .int .i64 tm.channel, .bool tm.free, .int .i64 tm.days, .int .i64 tm.wait, .bool is, .string pu, .slice none 0 0] rfl
  have h7 := h6.set 7 (.slice Au U.length cu) #[.string tm.region, .int .i64 tm.channel, .bool tm.free, .int .i64 tm.days, .int .i64 tm.wait, .bool is, .string pu, .slice Au U.length cu] rfl
  have S8 := (((((((S.set 2 0 (.string tm.region) rfl).set 2 1 (.int .i64 tm.channel) rfl).set 2 2 (.bool tm.free) rfl).set 2 3 (.int .i64 tm.days) rfl).set 2 4 (.int .i64 tm.wait) rfl).set 2 5 (.bool is) rfl).set 2 6 (.string pu) rfl).set 2 7 (.slice Au U.length cu) rfl
  have hsk : SKN (fun q => q = w.heap.size + 1 + 1) w4 ((((((((w4.setCell ⟨w.heap.size + 1 + 1, 0, none⟩ (.string tm.region)).setCell ⟨w.heap.size + 1 + 1, 1, none⟩ (.int .i64 tm.channel)).setCell ⟨w.heap.size + 1 + 1, 2, none⟩ (.bool tm.free)).setCell ⟨w.heap.size + 1 + 1, 3, none⟩ (.int .i64 tm.days)).setCell ⟨w.heap.size + 1 + 1, 4, none⟩ (.int .i64 tm.wait)).setCell ⟨w.heap.size + 1 + 1, 5, none⟩ (.bool is)).setCell ⟨w.heap.size + 1 + 1, 6, none⟩ (.string pu)).setCell ⟨w.heap.size + 1 + 1, 7, none⟩ (.slice Au U.length cu)) :=
    ⟨by simp [World.setCell], fun q _ h => by rw [Below.heap_setCell _ _ _ _ h, Below.heap_setCell _ _ _ _ h, Below.heap_setCell _ _ _ _ h, Below.heap_setCell _ _ _ _ h, Below.heap_setCell _ _ _ _ h, Below.heap_setCell _ _ _ _ h, Below.heap_setCell _ _ _ _ h, Below.heap_setCell _ _ _ _ h]⟩
  have hO := (HSU2.out.keep (hsk.mono (fun q e => by show q < _; rw [e]; exact hXd))).mono (M := Lt w.heap.size) (fun q _ h => Nat.lt_of_lt_of_le h hszd)
  exact bodyPost_ret (results_cell1 rfl rfl (loadAsk h7)) rfl ⟨Au, U, cu, rfl, HU.out, Hc.out, hO, S8.b⟩
end Go.Proofs.YthmkphmciiiagaaGreatDoor
