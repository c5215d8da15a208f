/- Several texts in one: Bytes, Happen, LawLogJ. -/
import Derived.Test.YtmlpkejeglpciaaGreatDoorRows
import Derived.WalkKit
import Derived.ProofKit
import Derived.OwnWalk
import Derived.Below
import Derived.Lib.Hide
import Derived.Lib.Builder
import Derived.Lib.AppendStr
import Derived.Lib.UnsafeStr
import Derived.Lib.Strings
import Derived.Lib.ConvBytes
import Derived.Laws.BytesArg
import Derived.StillTailTactics
import Derived.Deep.RegionLaw
import Derived.Handy
import Derived.Test.YtmlpkejeglpciaaGreatDoorPkAZ
import Derived.Test.YtmlpkejeglpciaaGreatDoorPkAN
import Derived.Carry
import Derived.Test.YtmlpkejeglpciaaGreatDoorPkAW
import Derived.Test.YtmlpkejeglpciaaGreatDoorPkAX
import Derived.Test.YtmlpkejeglpciaaGreatDoorPkAY
/- Slices of bytes that a call owns: made, appended to, turned into strings. -/
namespace Go.Proofs.YtmlpkejeglpciaaGreatDoor
open Go.RowKit

theorem u8Info : (Tryz.prog.info? 5).map (fun i => (i.zero, i.size, i.bytes)) = some (some (.int .u8 0), 1, 1) := by kernel_rfl

def OwnB (B : Nat) (v : Value) (l : List UInt8) (w : World) : Prop := w.ownsRow B 5 1 v l.length (Lib.byteCells l)

theorem OwnB.nil (B : Nat) (w : World) : OwnB B (.slice none 0 0) [] w := World.ownsRow_nil _ _ _ _
theorem OwnB.alloc {B : Nat} {v : Value} {l : List UInt8} {w : World} (h : OwnB B v l w) (o : Obj) : OwnB B v l (w.alloc o) := World.ownsRow.alloc h o
theorem OwnB.conv {B : Nat} {v : Value} {l : List UInt8} {w : World} (h : OwnB B v l w) : (convert 63 9 v).run Tryz.prog w = .ok (.string ⟨l.toArray⟩) w := by
  rcases h.2 with ⟨rfl, h0⟩ | ⟨g, cap, cur, rfl, hb, hg, hn, hc, hs, ht⟩
  · have : l = [] := List.length_eq_zero_iff.1 h0
    subst this
    exact run_convert_bytes_nil w 63 5 Tryz.underlying63 Tryz.underlying5 0 0 9 Tryz.underlying9
  · have hc := World.ownsRow.cells h (g := g) rfl
    have := run_convert_bytes_arg w 63 5 Tryz.underlying63 Tryz.underlying5 g 0 l.length cap (l.map fun c => (c.toNat : Int)) (by simp) (fun i hi => by
      have := hc i (.int .u8 l[i].toNat) (by simp [Lib.byteCells, List.getElem?_eq_getElem hi])
      have e : (⟨g, 0, none⟩ : Addr).add i = ⟨g, 0 + i, none⟩ := by unfold Addr.add; split <;> simp_all
      rw [← e, this]
      simp [List.getD, List.getElem?_eq_getElem hi]) 9 Tryz.underlying9
    rw [this]
    simp [strOfNums, List.map_map, Function.comp_def]

section
variable {ops : Array Oper} {rest : List Oper} {o : Oper} {a : Act} {Q : Exit → Act → World → Prop}
theorem app_bytes {w0 : World} {cs : Array Value} (hgd : o.guard = none) (s x : Operand) (ho : o.op = .call { callee := .builtin .append, args := #[s, x], argTypes := #[63, 63] })
    (B : Nat) (v : Value) (l new : List UInt8) (m c : Nat) (hs : a.eval s = v) (hown : OwnB B v l w0) (hx : a.eval x = .slice (some ⟨w0.heap.size, 0, none⟩) m c) (hm : m = new.length) (hcs : cs = (Lib.byteCells new).toArray)
    (hB : B ≤ w0.heap.size) (hlen : l.length + new.length ≤ 1000000000000)
    (h : ∀ v' w', OwnB B v' (l ++ new) w' → w0.grownBy w' v.ownBlock → Below B w0 w' → wpList Tryz.prog ops Q rest (a.put o.dst v') w') : wpList Tryz.prog ops Q (o :: rest) a (w0.alloc (.cells cs 5)) := by
  subst hm hcs
  obtain ⟨i0, hi, hz0, hz1, hz2⟩ := info_parts u8Info
  refine wpList_append_own _ hgd s x 63 ho B 5 i0 (.int .u8 0) 1 1 Tryz.underlying63 hi hz0 hz1 hz2 rfl (by decide) v l.length (Lib.byteCells l) hs (OwnB.alloc hown _) ⟨w0.heap.size, 0, none⟩ new.length c (Lib.byteCells new) hx (by simp [Lib.byteCells]) ?_ ?_ ?_ ?_ ?_ ?_
  · intro j u hj
    have hjl : j < (Lib.byteCells new).length := by
      rcases Nat.lt_or_ge j (Lib.byteCells new).length with h | h
      · exact h
      · rw [List.getElem?_eq_none h] at hj; cases hj
    have e : (⟨w0.heap.size, 0, none⟩ : Addr).add j = ⟨w0.heap.size, j, none⟩ := by unfold Addr.add; split <;> simp_all
    rw [e, World.cell?_alloc_at _ _ _ _ rfl]
    simpa using hj
  · intro u hu
    simp only [Lib.byteCells, List.mem_map] at hu
    obtain ⟨c, _, rfl⟩ := hu
    rfl
  · unfold maxLen; omega
  · omega
  · simp; omega
  · intro v' w' h1 h2 _
    have hg : w0.grownBy w' v.ownBlock := ⟨h2.os, h2.tape, h2.output, by have := h2.size; simp at this; omega, fun k hk hn => by rw [h2.block k (by simp; omega) hn]; exact Below.heap_alloc _ _ _ hk⟩
    refine h v' w' ?_ hg ((Below.refl B w0).grown hg hB (fun k hk => (World.ownsRow.lt hown k hk).1))
    unfold OwnB
    simpa [Lib.byteCells] using h1
end
end Go.Proofs.YtmlpkejeglpciaaGreatDoor

/- What handlaw2.happenings returns: true. -/
namespace Go.Proofs.YtmlpkejeglpciaaGreatDoor
open Go.RowKit
set_option maxHeartbeats 1000000 in
theorem checkEvents_nil (w : World) : Calls Tryz.prog 74 #[.slice none 0 0] w fun e w' => e = .returned (.int .i64 0) ∧ Below w.heap.size w w' := by
  have hmm := @run_makeMap Tryz.prog
  go_enter Tryz.func74, Tryz.ntmps74
  go_wp2_with fail
  go_loopw [13] (fun i wr => i = .int .i64 0 ∧ Below w.heap.size w wr) (fun _ _ => 0)
  case atStart => exact ⟨rfl, (Below.refl _ _).alloc (Nat.le_refl _) _⟩
  case round =>
    obtain ⟨rfl, hbl⟩ := hrel
    go_wp2_with fail
    go_ret
    exact ⟨rfl, hbl⟩
theorem OwnB.len {B : Nat} {v : Value} {l : List UInt8} {w : World} (h : OwnB B v l w) : ∃ A c, v = .slice A l.length c := by
  rcases h.2 with ⟨rfl, h0⟩ | ⟨g, cap, cur, rfl, _⟩
  · exact ⟨none, 0, by rw [h0]⟩
  · exact ⟨_, cap, rfl⟩
set_option maxHeartbeats 1000000 in
theorem varint_zero (P : Nat) (mp : Value) (w : World) (h : LV w P #[.slice none 0 0, mp] 117) : Calls Tryz.prog 75 #[.pointer (some ⟨P, 0, none⟩), .int .i64 0] w
    fun e w' => ∃ v', e = .returned (.tuple #[]) ∧ LV w' P #[v', mp] 117 ∧ OwnB w.heap.size v' [0] w' ∧ Below P w w' := by
  go_enter Tryz.func75, Tryz.ntmps75
  go_wp2_with fail
  go_loopw [1] (fun i wr => i = .int .i64 0 ∧ w = wr) (fun _ _ => 0)
  case atStart => exact ⟨rfl, rfl⟩
  case round =>
    obtain ⟨rfl, rfl⟩ := hrel
    have c0 : w.cell? ⟨P, 0, none⟩ = some (.slice none 0 0) := h.cell 0 _ rfl
    have f0 := h.free 0
    have hlt := h.lt
    go_wp2_with (at_builtin; refine app_bytes (w0 := w) rfl _ _ rfl w.heap.size _ _ [0] _ _ rfl (OwnB.nil w.heap.size w) rfl rfl rfl (Nat.le_refl _) (by simp) ?_; intro v' w2 hb2 hg2 hl2; obtain ⟨A2, k2, rfl⟩ := hb2.len; have h2 := LV.grown (row := none) h hg2 (by simp); have d0 : w2.cell? ⟨P, 0, none⟩ = some (.slice none 0 0) := h2.cell 0 _ rfl; have f2 := h2.free 0)
    have hp := h2.set 0 (.slice A2 1 k2) #[.slice A2 1 k2, mp] rfl
    have ho : OwnB w.heap.size (.slice A2 1 k2) [0] (w2.setCell ⟨P, 0, none⟩ (.slice A2 1 k2)) := ownsRow_setCell_other hb2 (by
      intro e
      have := (World.ownsRow.lt hb2 P e).1
      omega) _
    go_end0
    refine ⟨_, rfl, hp, ho, (hl2.mono (by omega)).trans ⟨rfl, rfl, rfl, by simp [World.setCell], fun k hk => Below.heap_setCell _ _ _ _ (by show k ≠ P; omega)⟩⟩
set_option maxHeartbeats 1000000 in
theorem pack_nil (w : World) : Calls Tryz.prog 25 #[.slice none 0 0] w fun e w' => e = .returned (.tuple #[.string ⟨#[0]⟩, .int .i64 0]) ∧ Below w.heap.size w w' := by
  have hmm := @run_makeMap Tryz.prog
  go_enter Tryz.func25, Tryz.ntmps25
  go_wp2_with fail
  refine (checkEvents_nil w).mono ?_
  rintro e w1 ⟨rfl, hl_w1⟩
  have hz_w1 := hl_w1.size
  have Hb2 : Hid (Below w.heap.size w ((w1.alloc (.map #[] 0)).alloc (.cells #[.slice none 0 0, .map (some w1.heap.size)] 117))) := (hl_w1.alloc hz_w1 _).alloc (by simp; omega) _
  have lv2 := LV.new (w1.alloc (.map #[] 0)) (w1.heap.size + 1) #[.slice none 0 0, .map (some w1.heap.size)] 117 (by simp)
  go_wp2_with fail
  refine (varint_zero _ _ _ lv2).mono ?_
  rintro e w3 ⟨v3, rfl, lv3, ho3, hl3⟩
  have Hb3 := Lib.hid (Hb2.out.trans (hl3.mono (by omega)))
  obtain ⟨A3, k3, rfl⟩ := ho3.len
  have c3 : w3.cell? ⟨w1.heap.size + 1, 0, none⟩ = some (.slice A3 1 k3) := lv3.cell 0 _ rfl
  have hcv : (convert 63 9 (.slice A3 1 k3)).run Tryz.prog w3 = .ok (.string ⟨#[0]⟩) w3 := OwnB.conv ho3
  clear lv2 lv3 ho3 hl3 hl_w1
  go_wp2_with fail
  go_loopw [25] (fun i wr => i = .int .i64 0 ∧ w3 = wr) (fun _ _ => 0)
  case atStart => exact ⟨rfl, rfl⟩
  case round =>
    obtain ⟨rfl, rfl⟩ := hrel
    go_wp2_with fail
    go_ret2
    exact ⟨rfl, Hb3.out⟩
theorem utc_ok : zoneFault ⟨#[117, 116, 99]⟩ [⟨0, 0⟩] = 0 := by decide +kernel
theorem utc_day : readV 0 3000 (dayIn (clk [⟨0, 0⟩] 3000)) = .tuple #[.int .i64 2, .int .i64 0] := by rfl
set_option maxHeartbeats 1000000 in
theorem happenings_any (w : World) : Calls Tryz.prog 10 #[] w fun e w' => e = .returned (.bool true) ∧ Below w.heap.size w w' := by
  have hb0 : Below w.heap.size w (w.alloc (.cells #[.int .i64 0, .int .i64 0] 88)) := (Below.refl _ _).alloc (Nat.le_refl _) _
  obtain ⟨A, c, e, hS⟩ := (Own.lit (N := fun _ => False) (B := w.heap.size) (E := 88) (xs := [⟨0, 0⟩]) flatSft w #[.int .i64 0, .int .i64 0] 1 (Nat.le_refl _) rfl (by omega) rfl rfl).toSl (fun _ _ h => h)
  cases e
  have Hd := Lib.hid (day_any (fun _ => False) _ ⟨#[117, 116, 99]⟩ [⟨0, 0⟩] 1 3000 _ hS (by decide) (by decide) (fun s hs => by rw [List.mem_singleton.1 hs]; exact ⟨by decide, by decide⟩))
  rw [utc_ok, utc_day, List.length_singleton] at Hd
  have Hb0 := Lib.hid hb0
  clear hS hb0
  go_enter Tryz.func10, Tryz.ntmps10
  go_wp2_with fail
  refine (Hd.out).mono ?_
  rintro e w1 ⟨rfl, hl_w1⟩
  have hz_w1 := hl_w1.size
  have Hb1 := Lib.hid (Hb0.out.trans (hl_w1.mono (by simp)))
  clear Hd hl_w1 hz_w1
  go_wp2_with fail
  refine (pack_nil w1).mono ?_
  rintro e w2 ⟨rfl, hl_w2⟩
  have hz_w2 := hl_w2.size
  have Hb2 := Lib.hid (Hb1.out.trans (hl_w2.mono Hb1.out.size))
  clear hl_w2 hz_w2
  go_wp2_with fail
  go_ret
  exact ⟨rfl, Hb2.out⟩
end Go.Proofs.YtmlpkejeglpciaaGreatDoor

/- The law LogJoins walked: it returns true, and nothing that was there has turned. -/
namespace Go.Proofs.YtmlpkejeglpciaaGreatDoor
open Go Go.RowKit
theorem perm_all (x v y w : List Chunk) (a b : Chunk) (T : List Chunk) : (w ++ (v ++ (y ++ (a :: (x ++ (b :: T)))))).Perm (x ++ (v ++ (y ++ (w ++ (b :: a :: T))))) := by
  have h1 : (w ++ (v ++ (y ++ (a :: (x ++ (b :: T)))))).Perm (x ++ ((w ++ (v ++ (y ++ [a]))) ++ (b :: T))) := by
    have := List.perm_append_comm_assoc (w ++ (v ++ (y ++ [a]))) x (b :: T)
    simpa [List.append_assoc] using this
  refine h1.trans (List.Perm.append_left x ?_)
  have h2 := List.perm_append_comm_assoc w (v ++ y) ([a] ++ (b :: T))
  refine (List.Perm.of_eq (by simp [List.append_assoc])).trans (h2.trans ?_)
  refine (List.Perm.of_eq (by simp [List.append_assoc] : (v ++ y) ++ (w ++ ([a] ++ (b :: T))) = v ++ (y ++ (w ++ (a :: b :: T))))).trans ?_
  exact List.Perm.append_left v (List.Perm.append_left y (List.Perm.append_left w (List.Perm.swap _ _ _)))
theorem perm_xy (x v y T : List Chunk) : (x ++ (v ++ (y ++ T))).Perm (x ++ (y ++ (v ++ T))) := (List.perm_append_comm_assoc v y T).append_left x
theorem perm_vw (x y v w T : List Chunk) : (x ++ (y ++ (v ++ (w ++ T)))).Perm (v ++ (w ++ (x ++ (y ++ T)))) := by
  have := List.perm_append_comm_assoc (x ++ y) (v ++ w) T
  simpa [List.append_assoc] using this
theorem perm_e (p T : List Chunk) (c : Chunk) : ((p ++ T) ++ [c]).Perm (p ++ (c :: T)) := by
  rw [List.append_assoc]
  exact (List.perm_append_comm (l₁ := T) (l₂ := [c])).append_left p
theorem mapId {qs : List EQ} : (qs.map EQ.e).map Evt.id = qs.map (fun q => q.e.id) := by rw [List.map_map]; rfl
theorem LogOk.pn {qs ps : List EQ} {La Lg : List (ByteArray × Value)} {gn : List ByteArray} (h : LogOk qs ps La Lg gn) : (ps.map (fun q => q.e.id)).Nodup := by
  rw [← mapId, (h.s.pe.symm.map Evt.id).nodup_iff]
  exact h.s.lo.id
theorem LogOk.apR {qs ps : List EQ} {La Lg : List (ByteArray × Value)} {gn : List ByteArray} (h : LogOk qs ps La Lg gn) : ∀ p ∈ ps, p.e.id ∉ gn := fun p hp hg => by
  obtain ⟨q, hq, e⟩ := List.mem_map.1 (h.s.pe.mem_iff.2 (List.mem_map_of_mem hp))
  exact h.s.ap p.e (by rw [← e]; exact List.mem_map_of_mem hq) ((h.s.gs _).2 hg)
set_option maxHeartbeats 32000000 in
set_option maxRecDepth 100000 in
theorem logJoins_any (v : Value) (w : World) (hv : IntsIn v w) (hT : Tabs w) (hM : MaxL w) (hN : Names w) (hE : ENames w) (hP : Pool w) :
    Calls Tryz.prog 4 #[v] w fun e w' => e = .returned (.bool true) ∧ Below w.heap.size w w' := by
  obtain ⟨va, vn, vc, rfl⟩ : ∃ a n c, v = .slice a n c := by
    rcases hv with ⟨a, c, rfl⟩ | ⟨k, off, len, cap, rfl, _⟩
    · exact ⟨_, _, _, rfl⟩
    · exact ⟨_, _, _, rfl⟩
  have g0 := G.start (Strm.start hv)
  clear hv
  obtain ⟨b, hb⟩ : ∃ b, b = w.heap.size := ⟨_, rfl⟩
  have hPn : 2 ≠ b := by rw [hb]; exact Nat.ne_of_lt hP.lt
  have hNn : 1 ≠ b := by rw [hb]; exact Nat.ne_of_lt hN.lt
  have hEn : 0 ≠ b := by rw [hb]; exact Nat.ne_of_lt hE.lt
  have hb0 : Below b w (w.alloc (.cells #[.slice va vn vc, .int .i64 0] 25)) := by rw [hb]; exact (Below.refl _ _).alloc (Nat.le_refl _) _
  have Hb0 := Lib.hid hb0
  have HTM : Hid (∀ w', Below b w w' → Tabs w' ∧ MaxL w') := fun w' h => by rw [hb] at h; exact ⟨Utf8Tabs_below hT h, hM.below h⟩
  have HP := Lib.hid (hP.keep (b := b) ((SK.refl _ w).alloc (.cells #[.slice va vn vc, .int .i64 0] 25)) hPn)
  have HN := Lib.hid (hN.keep (b := b) ((SK.refl _ w).alloc (.cells #[.slice va vn vc, .int .i64 0] 25)) hNn)
  have HE := Lib.hid (hE.keep (b := b) ((SK.refl _ w).alloc (.cells #[.slice va vn vc, .int .i64 0] 25)) hEn)
  rw [← hb] at g0
  have hw0 : b ≤ (w.alloc (.cells #[.slice va vn vc, .int .i64 0] 25)).heap.size := by simp; omega
  have S : St b 0 _ _ [] := St.start g0.s
  have Hbw := Lib.hid hb
  clear hP hM hN hE hT hb0 g0
  go_enter Tryz.func4, Tryz.ntmps4
  go_upto_region 2 with fail
  rw [← hb]
  clear hb
  generalize w.alloc (.cells #[.slice va vn vc, .int .i64 0] 25) = w1 at *
  have HTS : Hid (∀ m w', G b m w1 w' → b ≤ w'.heap.size ∧ Below b w w') := fun m w' h => ⟨Nat.le_trans hw0 h.size, Hb0.out.trans (h.k.below (Nat.le_refl _) hw0)⟩
  have HSc := Lib.hid (fun m wx (h : G b m w1 wx) (hm : m ≤ 1000000) => schemas_any b m wx h.s (by omega) (HN.out.keep h.k hNn) hNn (HE.out.keep h.k hEn))
  have HEv := Lib.hid (fun m (A : Option Addr) (l : List Scm) (c : Nat) (id : ByteArray) (at' : Int) wx (h : G b m w1 wx) (hm : m ≤ 6000000) (hid : id.size ≤ 1000) (hS : Sl rScm (Off b) wx A l) (hsm : ScmSm l) => eventFor_any b m A l c id at' wx h.s (by omega) hid (HN.out.keep h.k hNn) hNn (HE.out.keep h.k hEn) hEn (HP.out.keep h.k hPn) hPn hS hsm)
  have HTW : Hid (∀ m w', G b m w1 w' → Tabs w' ∧ MaxL w') := fun m w' h => HTM.out w' (HTS.out m w' h).2
  clear HN HP HE hNn hPn hEn hw0 HTM
  go_wp2_with fail
  refine (HSc.out _ _ S.g (by omega)).mono ?_
  rintro e w2 ⟨v0, l, rfl, hsm, T⟩
  obtain ⟨K2, ck2, rfl, S3⟩ := (S.join T).frz 0 rfl
  replace S : St b 200 w1 w2 [.sl rScm K2 l] := S3.mono (by omega)
  have Hsm := Lib.hid hsm
  clear T S3 hsm
  go_wp2_with fail
  refine (flip_any b _ 3 _ S.g.s (by omega) (by omega) (by omega)).mono ?_
  rintro e w3 ⟨bo, rfl, hk3, hs3⟩
  replace S := S.step hk3 hs3
  clear hk3 hs3
  go_upto_if 23 with fail
  go_cut [5] (fun s5 wx => ∃ (T0 : List Chunk) (i : Nat) (K4 : Option Addr) (ck4 : Nat) (l2 : List Scm), s5 = .slice K4 l2.length ck4 ∧ Hid (ScmSm l2) ∧ Hid (T0[0]? = some (.sl rScm K2 l)) ∧ Hid (T0[i]? = some (.sl rScm K4 l2)) ∧ St b 500 w1 wx T0)
  case first =>
    cases bo
    · have HS := Lib.hid S
      clear S
      go_wp2_with fail
      go_meet
      exact ⟨[.sl rScm K2 l], 0, K2, ck2, l, rfl, Hsm.out, rfl, rfl, HS.out.mono (by omega)⟩
    · go_wp2_with fail
      refine (HSc.out _ _ S.g (by omega)).mono ?_
      rintro e w4 ⟨v0, l2, rfl, hsm, T⟩
      obtain ⟨K4, ck4, rfl, S3⟩ := (S.join T).frz 1 rfl
      have HS := Lib.hid (S3.mono (show 200 + 1 + 200 ≤ 500 by omega))
      have Hsm2 := Lib.hid hsm
      clear S T S3 hsm
      go_wp2_with fail
      go_meet
      exact ⟨[.sl rScm K2 l, .sl rScm K4 l2], 1, K4, ck4, l2, rfl, Hsm2.out, rfl, rfl, HS.out⟩
  case rest =>
    clear S
    obtain ⟨T0, i0, K4, ck4, l2, rfl, Hsm2, H0, Hi, S⟩ := hcut
    obtain ⟨F1, hF1⟩ : ∃ F, scmsFault l = F := ⟨_, rfl⟩
    obtain ⟨F2, hF2⟩ : ∃ F, scmsFault l2 = F := ⟨_, rfl⟩
    have HF1 := Lib.hid hF1
    have HF2 := Lib.hid hF2
    have Hr1 := refSchemas_any (fun _ => False) K2 l ck2 wc ((S.slc 0 H0.out).mono (fun _ _ h => h.elim)) Hsm.out.ok
    rw [hF1] at Hr1
    replace Hr1 := Lib.hid Hr1
    clear hF1
    go_wp2_with fail
    refine (Hr1.out).mono ?_
    rintro e w5 ⟨rfl, hb5⟩
    replace S := S.below hb5
    clear Hr1 hb5
    by_cases hz1 : F1 = 0
    · subst hz1
      have Hr2 := refSchemas_any (fun _ => False) K4 l2 ck4 w5 ((S.slc i0 Hi.out).mono (fun _ _ h => h.elim)) Hsm2.out.ok
      rw [hF2] at Hr2
      replace Hr2 := Lib.hid Hr2
      clear hF2
      go_wp2_with fail
      refine (Hr2.out).mono ?_
      rintro e w6 ⟨rfl, hb6⟩
      replace S := S.below hb6
      clear Hr2 hb6
      by_cases hz2 : F2 = 0
      · subst hz2
        have Hne := Lib.hid (new_log K2 l ck2 w6 ((S.slc 0 H0.out).mono (fun _ _ h => h.elim)) Hsm.out (fun s hs => Nat.le_trans (Hsm.out.nl s hs) (by decide)))
        go_wp2_with fail
        refine (Hne.out).mono ?_
        rintro e w7 hnew
        clear Hne
        rcases hnew with ⟨hF, _⟩ | ⟨_, X, K, ck, AT, GN, rfl, T4⟩
        · exact absurd HF1.out hF
        have hBX : w6.heap.size ≤ X := (T4.ge 0 rfl).1
        obtain ⟨B, hB⟩ : ∃ B, w6.heap.size = B := ⟨_, rfl⟩
        rw [hB] at T4 hBX
        clear hB
        obtain ⟨wb, _, M, back⟩ := S.viaMem
        replace S := (back _ _ (M.join T4)).perm List.perm_append_comm
        clear T4 M back
        have Hne := Lib.hid (new_log K4 l2 ck4 w7 ((S.slc (i0 + 6) Hi.out).mono (fun _ _ h => h.elim)) Hsm2.out (fun s hs => Nat.le_trans (Hsm2.out.nl s hs) (by decide)))
        go_wp2_with fail
        refine (Hne.out).mono ?_
        rintro e w8 hnew
        clear Hne
        rcases hnew with ⟨hF, _⟩ | ⟨_, X2, K3, ck3, AT2, GN2, rfl, T4⟩
        · exact absurd HF2.out hF
        have hBX2 : w7.heap.size ≤ X2 := (T4.ge 0 rfl).1
        obtain ⟨B5, hB5⟩ : ∃ B5, w7.heap.size = B5 := ⟨_, rfl⟩
        rw [hB5] at T4 hBX2
        clear hB5
        obtain ⟨wb, _, M, back⟩ := S.viaMem
        replace S := (back _ _ (M.join T4)).perm List.perm_append_comm
        clear T4 M back
        obtain ⟨Y, hY⟩ : ∃ Y, Y = w8.heap.size := ⟨_, rfl⟩
        obtain ⟨Y2, hY2⟩ : ∃ Y2, Y2 = w8.heap.size + 1 := ⟨_, rfl⟩
        have S1 := (S.newAt (rlgCs K2 l.length ck2 (.slice none 0 0) (.slice none 0 0)) 39 Y hY).front
        have S2 := (S1.nil rStr Y 9).front
        have S3 := (S2.call (G.start S2.g.s) (.flds []) (fun q hq => by cases hq) (fun k e => by cases e)).front
        have S4 := ((S3.nil rEQ Y 47).front).perm (List.perm_middle (l₁ := [_, _, _]))
        have S5 := (S4.newAt (rlgCs K4 l2.length ck4 (.slice none 0 0) (.slice none 0 0)) 39 Y2 (by rw [World.size_alloc]; exact hY2)).front
        have S6 := (S5.nil rStr Y2 9).front
        have S7 := (S6.call (G.start S6.g.s) (.flds []) (fun q hq => by cases hq) (fun k e => by cases e)).front
        have S8 := ((S7.nil rEQ Y2 47).front).perm (List.perm_middle (l₁ := [_, _, _]))
        have S9 : St b 500 w1 _ (lgsP X K l.length ck (.slice none 0 0) B [] AT [] GN [] Y K2 ck2 (.slice none 0 0) Y [] [] (.slice none 0 0) Y [] (lgsP X2 K3 l2.length ck3 (.slice none 0 0) B5 [] AT2 [] GN2 [] Y2 K4 ck4 (.slice none 0 0) Y2 [] [] (.slice none 0 0) Y2 [] (.sl rScm K l :: .sl rScm K3 l2 :: T0))) := S8.perm (perm_all [_, _, _, _, _] [_, _, _, _] [_, _, _, _, _] [_, _, _, _] _ _ _)
        clear S S1 S2 S3 S4 S5 S6 S7 S8
        go_upto_region 13 with fail
        rw [← hY2, ← hY]
        clear hY hY2
        generalize World.alloc _ _ = w9 at S9 ⊢
        have S := S9
        clear S9
        go_wp2_with fail
        refine (range_any b _ _ _ _ S.g.s (by omega) (by omega) (by omega) (by omega)).mono ?_
        rintro e w10 ⟨many, m_lo, m_hi, rfl, hk7, hs7⟩
        obtain ⟨n, rfl⟩ := Int.eq_ofNat_of_zero_le (by omega : 0 ≤ many)
        replace S := S.step hk7 hs7
        have hn8 : n ≤ 8 := by omega
        clear hk7 hs7 m_lo m_hi
        have Hfi := Lib.hid (fill_any b _ n w1 w10 _ X l K ck B AT GN Y K2 ck2 Y Y 9 11 S rfl H0.out Hsm.out HF1.out hBX (Nat.le_refl _) (Nat.le_refl _) (by omega) (by omega) HTW (fun m' wx id at' h hm hid hS => HEv.out m' K2 l ck2 id at' wx h (by omega) hid hS Hsm.out))
        clear S
        go_wp2_with fail
        refine (Hfi.out).mono ?_
        rintro e w11 ⟨v, qs, La, Lg, v2, ps, fs, g2, gn, rfl, hok, hsub, hpl, hgl, S⟩
        have Hok := Lib.hid hok
        have Hsub := Lib.hid hsub
        have Hps : Hid (ps.length ≤ 8 ∧ gn.length ≤ 8) := ⟨by omega, by omega⟩
        replace S := S.mono (show 500 + 1 + 1500 * n ≤ 13000 by omega)
        clear Hfi hok hsub hpl hgl hn8
        go_wp2_with fail
        refine (range_any b _ _ _ _ S.g.s (by omega) (by omega) (by omega) (by omega)).mono ?_
        rintro e w12 ⟨many, m_lo, m_hi, rfl, hk7, hs7⟩
        obtain ⟨n2, rfl⟩ := Int.eq_ofNat_of_zero_le (by omega : 0 ≤ many)
        replace S := (S.step hk7 hs7).perm (List.perm_append_comm_assoc [_, _, _, _, _, _, _, _, _] [_, _, _, _, _, _, _, _, _] _)
        replace S : St b (13000 + 1) w1 w12 (lgsP X2 K3 l2.length ck3 (.slice none 0 0) B5 [] AT2 [] GN2 [] Y2 K4 ck4 (.slice none 0 0) Y2 [] [] (.slice none 0 0) Y2 [] (lgsP X K l.length ck v B qs AT La GN Lg Y K2 ck2 v2 Y ps fs g2 Y gn (.sl rScm K l :: .sl rScm K3 l2 :: T0))) := S
        have hn8 : n2 ≤ 8 := by omega
        clear hk7 hs7 m_lo m_hi
        have Hfi := Lib.hid (fill_any b _ n2 w1 w12 _ X2 l2 K3 ck3 B5 AT2 GN2 Y2 K4 ck4 Y2 Y2 10 (i0 + 11) S rfl Hi.out Hsm2.out HF2.out hBX2 (Nat.le_refl _) (Nat.le_refl _) (by omega) (by omega) HTW (fun m' wx id at' h hm hid hS => HEv.out m' K4 l2 ck4 id at' wx h (by omega) hid hS Hsm2.out))
        clear S
        go_wp2_with fail
        refine (Hfi.out).mono ?_
        rintro e w13 ⟨v3, q2, L2, G2, v4, p2, f2, g4, gn2, rfl, hok, hsub, hpl, hgl, S⟩
        have Hok2 := Lib.hid hok
        have Hsub2 := Lib.hid hsub
        have Hps2 : Hid (p2.length ≤ 8 ∧ gn2.length ≤ 8) := ⟨by omega, by omega⟩
        replace S := (S.mono (show 13000 + 1 + 1500 * n2 ≤ 26000 by omega)).perm (List.perm_append_comm_assoc [_, _, _, _, _, _, _, _, _] [_, _, _, _, _, _, _, _, _] _)
        replace S : St b 26000 w1 w13 (lgsP X K l.length ck v B qs AT La GN Lg Y K2 ck2 v2 Y ps fs g2 Y gn (lgsP X2 K3 l2.length ck3 v3 B5 q2 AT2 L2 GN2 G2 Y2 K4 ck4 v4 Y2 p2 f2 g4 Y2 gn2 (.sl rScm K l :: .sl rScm K3 l2 :: T0))) := S
        clear Hfi hok hsub hpl hgl hn8
        go_wp2_with fail
        refine (flip_any b _ 2 _ S.g.s (by omega) (by omega) (by omega)).mono ?_
        rintro e w14 ⟨bo, rfl, hk14, hs14⟩
        replace S := S.step hk14 hs14
        clear hk14 hs14
        obtain ⟨A8, c8, e8⟩ := (S.ow 15 rfl).len
        subst e8
        go_upto_if 82 with fail
        go_cut [13] (fun s13 wx => ∃ (v : Value) (qs : List EQ) (La : List (ByteArray × Value)) (v2 : Value) (ps fs : List EQ) (v4 : Value), Hid (LogOk qs ps La Lg gn) ∧ Hid (SubOk ps fs) ∧ Hid (ps.length ≤ 16 ∧ gn.length ≤ 8) ∧ St b 27000 w1 wx (lgsP X K l.length ck v B qs AT La GN Lg Y K2 ck2 v2 Y ps fs g2 Y gn (lgsP X2 K3 l2.length ck3 v3 B5 q2 AT2 L2 GN2 G2 Y2 K4 ck4 v4 Y2 p2 f2 g4 Y2 gn2 (.sl rScm K l :: .sl rScm K3 l2 :: T0))))
        case first =>
          cases bo
          · have HS := Lib.hid S
            clear S
            go_wp2_with fail
            go_meet
            exact ⟨v, qs, La, v2, ps, fs, _, Hok.out, Hsub.out, ⟨by have := Hps.out; omega, Hps.out.2⟩, HS.out.mono (by omega)⟩
          · obtain ⟨fs9, hfs9⟩ : ∃ fs9, fs ++ f2 = fs9 := ⟨_, rfl⟩
            have Hin : Hid ((∀ p ∈ fs, p ∈ fs9) ∧ (∀ p ∈ f2, p ∈ fs9) ∧ ∀ p ∈ fs9, EvSm p.e) := by
              rw [← hfs9]
              exact ⟨fun p hp => List.mem_append_left _ hp, fun p hp => List.mem_append_right _ hp, fun p hp => (List.mem_append.1 hp).elim (Hsub.out.2 p) (Hsub2.out.2 p)⟩
            have S1 := S.turn 7 rfl (.flds fs9) rfl (fun q hq => by
              rw [← hfs9] at hq
              rcases List.mem_append.1 hq with h | h
              · exact S.fl 7 rfl q h
              · exact S.fl 16 rfl q h)
            replace S : St b (26000 + 1) w1 w14 (lgsP X K l.length ck v B qs AT La GN Lg Y K2 ck2 v2 Y ps fs9 g2 Y gn (lgsP X2 K3 l2.length ck3 v3 B5 q2 AT2 L2 GN2 G2 Y2 K4 ck4 (.slice A8 p2.length c8) Y2 p2 f2 g4 Y2 gn2 (.sl rScm K l :: .sl rScm K3 l2 :: T0))) := S1
            replace Hsub : Hid (SubOk ps fs9) := ⟨fun p hp => Hin.out.1 p (Hsub.out.1 p hp), Hin.out.2.2⟩
            have Hbd0 : Hid (ps.length ≤ 8 + 0) := Hps.out.1
            have Hgl := Lib.hid Hps.out.2
            have y0 := (S.lv 14 rfl).all
            obtain ⟨m, hm⟩ : ∃ m, m = p2.length := ⟨_, rfl⟩
            have hm8 : m ≤ 8 := by rw [hm]; exact Hps2.out.1
            have Hm := Lib.hid hm
            rw [← hm] at y0
            clear S1 hfs9 Hps hm
            go_wp2_with fail
            go_loopw [88] (fun i wr => ∃ (k : Nat) (v : Value) (qs : List EQ) (La : List (ByteArray × Value)) (v2 : Value) (ps : List EQ), k ≤ m ∧ i = .int .i64 k ∧ Hid (LogOk qs ps La Lg gn) ∧ Hid (SubOk ps fs9) ∧ Hid (ps.length ≤ 8 + k) ∧ St b (26001 + k) w1 wr (lgsP X K l.length ck v B qs AT La GN Lg Y K2 ck2 v2 Y ps fs9 g2 Y gn (lgsP X2 K3 l2.length ck3 v3 B5 q2 AT2 L2 GN2 G2 Y2 K4 ck4 (.slice A8 p2.length c8) Y2 p2 f2 g4 Y2 gn2 (.sl rScm K l :: .sl rScm K3 l2 :: T0)))) (fun i _ => m - (intOf i).toNat)
            case atStart => exact ⟨0, v, qs, La, v2, ps, Nat.zero_le _, rfl, Hok, Hsub, Hbd0, S⟩
            case round =>
              clear S y0 Hbd0 Hok Hsub
              clear ps qs La v v2
              obtain ⟨k, v, qs, La, v2, ps, hk, rfl, Hok, Hsub, Hbd, S⟩ := hrel
              by_cases hlt : k < m
              · obtain ⟨q, hq⟩ : ∃ q, p2[k]? = some q := ⟨_, List.getElem?_eq_getElem (by have := Hm.out; omega)⟩
                obtain ⟨blk, off, hA, hblk, d0, d1, d2, d3, d4, d5⟩ := hrowE ((S.ow 15 rfl).slF flatEQ) hq
                subst hA
                have Hqf : Hid (q ∈ fs9) := Hin.out.2.1 q (Hsub2.out.1 q (List.mem_of_getElem? hq))
                clear hq
                obtain ⟨E, hE⟩ : ∃ E, E = wr.heap.size := ⟨_, rfl⟩
                replace S := (S.newAt (evCs q.e q.A q.c) 47 E hE).perm (perm_e [_, _, _, _, _, _, _, _, _, _, _, _, _, _, _, _, _, _] _ _)
                replace S : St b (26001 + k) w1 _ (lgsP X K l.length ck v B qs AT La GN Lg Y K2 ck2 v2 Y ps fs9 g2 Y gn (lgsP X2 K3 l2.length ck3 v3 B5 q2 AT2 L2 GN2 G2 Y2 K4 ck4 (.slice (some ⟨blk, off, none⟩) p2.length c8) Y2 p2 f2 g4 Y2 gn2 (.loc E (evCs q.e q.A q.c) 47 :: .sl rScm K l :: .sl rScm K3 l2 :: T0))) := S
                go_upto_region 19 with fail
                rw [← hE]
                clear hE d0 d1 d2 d3 d4 d5 hblk
                generalize World.alloc _ _ = w15 at S ⊢
                go_wp2_with fail
                refine (flip_any b _ 3 _ S.g.s (by omega) (by omega) (by omega)).mono ?_
                rintro e w16 ⟨bo, rfl, hk16, hs16⟩
                replace S := S.step hk16 hs16
                clear hk16 hs16
                cases bo
                · have u0 := (S.lv 18 rfl).all
                  have hTM := HTW.out _ _ S.g
                  have hK1 : Sl rScm (fun _ => False) w16 K l := (S.slc 19 rfl).mono (fun _ _ h => h.elim)
                  have hqd : Sl rFld (fun _ => False) w16 q.A q.e.flds := (S.fl 7 rfl q Hqf.out).mono (fun _ _ h => h.elim)
                  obtain ⟨wb, _, M, back⟩ := S.viaMem
                  have Had := Lib.hid (add_log _ X l K ck v B qs AT La GN Lg q.e q.A q.c M hK1 (scms_good HF1.out) hqd (Hsub.out.2 q Hqf.out).ok (Nat.le_trans (Hsub.out.2 q Hqf.out).fl (by decide)) hTM.1 hTM.2 Hok.out.s.lo Hok.out.tm Hok.out.go Hok.out.ap (by rw [Hok.out.len]; have := Hbd.out; omega) (fun p hp => Nat.le_trans (Hok.out.qsm p hp).fl (by decide)) (Nat.le_trans hBX (Nat.le_of_lt (S.lv 0 rfl).lt)))
                  have HBk := Lib.hid back
                  clear S M back hTM hK1 hqd
                  go_wp2_with fail
                  refine (Had.out).mono ?_
                  rintro e wA ⟨ok1, er1, rfl, hto1, hM1⟩
                  clear Had u0
                  have Hto1 := Lib.hid hto1
                  clear hto1
                  obtain ⟨qs2, La2, v9, hS1, Hq2⟩ : ∃ (qs2 : List EQ) (La2 : List (ByteArray × Value)) (v9 : Value), St b (26001 + k + 1) w1 wA (lgsP X K l.length ck v9 B qs2 AT La2 GN Lg Y K2 ck2 v2 Y ps fs9 g2 Y gn (lgsP X2 K3 l2.length ck3 v3 B5 q2 AT2 L2 GN2 G2 Y2 K4 ck4 (.slice (some ⟨blk, off, none⟩) p2.length c8) Y2 p2 f2 g4 Y2 gn2 (.loc E (evCs q.e q.A q.c) 47 :: .sl rScm K l :: .sl rScm K3 l2 :: T0))) ∧ Hid (AddP q.e qs La qs2 La2 ok1) := by
                    rcases hM1 with ⟨ho, hM⟩ | ⟨ho, i, q', v', hq', hp, hM⟩
                    · exact ⟨qs, La, v, HBk.out _ _ hM, .inl ⟨ho, rfl, rfl⟩⟩
                    · exact ⟨_, _, v', HBk.out _ _ hM, .inr ⟨ho, i, q', hq', hp, rfl, rfl⟩⟩
                  have u1 := (hS1.lv 18 rfl).all
                  have hTM := HTW.out _ _ hS1.g
                  have hK2 : Sl rScm (fun _ => False) wA K2 l := (hS1.slc (0 + 21) H0.out).mono (fun _ _ h => h.elim)
                  obtain ⟨wb, _, M, back⟩ := hS1.viaMem
                  have M2 := M.perm (perm_ref _ _ _ _ _ _ _ _ _ _)
                  have Had := Lib.hid (add_rlg _ Y l K2 ck2 v2 Y ps fs9 g2 Y gn q M2 hK2 Hsm.out.ok Hqf.out Hsub.out.1 Hsub.out.2 hTM.1 hTM.2 (by have := Hbd.out; omega) (by have := Hgl.out; omega) (Nat.le_refl _))
                  have HBk := Lib.hid back
                  clear hS1 M M2 back hTM hM1 hK2
                  go_wp2_with fail
                  refine (Had.out).mono ?_
                  rintro e wC ⟨ok2, er2, rfl, hto2, hM2⟩
                  clear Had u1
                  rw [evF_suf HF1.out] at hto2
                  obtain ⟨hoo, hee⟩ := Hok.out.s.addTo Hto1.out hto2
                  subst hoo hee
                  clear hto2
                  obtain ⟨ps3, v8, hS2, Hr2⟩ : ∃ (ps3 : List EQ) (v8 : Value), St b (26001 + k + 1) w1 wC (lgsP X K l.length ck v9 B qs2 AT La2 GN Lg Y K2 ck2 v8 Y ps3 fs9 g2 Y gn (lgsP X2 K3 l2.length ck3 v3 B5 q2 AT2 L2 GN2 G2 Y2 K4 ck4 (.slice (some ⟨blk, off, none⟩) p2.length c8) Y2 p2 f2 g4 Y2 gn2 (.sl rScm K l :: .sl rScm K3 l2 :: T0))) ∧ Hid ((ok1 = false ∧ ps3 = ps) ∨ (ok1 = true ∧ ps3 = ps ++ [q])) := by
                    rcases hM2 with ⟨ho, hM⟩ | ⟨ho, v', hM⟩
                    · exact ⟨ps, v2, (HBk.out _ _ (hM.perm (perm_ref _ _ _ _ _ _ _ _ _ _).symm)).del 18, .inl ⟨ho, rfl⟩⟩
                    · exact ⟨ps ++ [q], v', (HBk.out _ _ (hM.perm (perm_ref _ _ _ _ _ _ _ _ _ _).symm)).del 18, .inr ⟨ho, rfl⟩⟩
                  have hbo := Hok.out.addBoth (Hsub.out.2 q Hqf.out) Hto1.out Hq2.out Hr2.out
                  have Hok2b := Lib.hid hbo.1
                  have Hsub2b : Hid (SubOk ps3 fs9) := ⟨fun p hp => by
                    rcases hbo.2.1 p hp with h | h
                    · exact Hsub.out.1 p h
                    · rw [h]; exact Hqf.out, Hsub.out.2⟩
                  have Hbd2 : Hid (ps3.length ≤ 8 + (k + 1)) := by have h1 := hbo.2.2; have h2 := Hbd.out; show _ ≤ _; omega
                  clear hM2 Hq2 Hr2 Hto1 HBk hbo
                  go_wp2_with fail
                  go_roundw
                  case rel => exact ⟨k + 1, v9, qs2, La2, v8, ps3, by omega, by go_num, Hok2b, Hsub2b, Hbd2, hS2.mono (by omega)⟩
                  case measure => simp [intOf]; omega
                · have Hbd2 : Hid (ps.length ≤ 8 + (k + 1)) := by have h2 := Hbd.out; show _ ≤ _; omega
                  have HS2 := Lib.hid (S.del 18)
                  clear S
                  go_wp2_with fail
                  go_roundw
                  case rel => exact ⟨k + 1, v, qs, La, v2, ps, by omega, by go_num, Hok, Hsub, Hbd2, HS2.out.mono (by omega)⟩
                  case measure => simp [intOf]; omega
              · have HS := Lib.hid S
                clear S
                go_wp2_with fail
                go_meet
                exact ⟨v, qs, La, v2, ps, fs9, _, Hok.out, Hsub.out, ⟨by have := Hbd.out; omega, Hgl.out⟩, HS.out.mono (by omega)⟩
        case rest =>
          clear S Hok Hsub Hps
          clear A8 c8 fs v2 La qs v ps
          obtain ⟨v, qs, La, v2, ps, fs, v4, Hok, Hsub, Hps, S⟩ := hcut
          have hql : qs.length ≤ 16 := by rw [Hok.out.len]; exact Hps.out.1
          have hq2l : q2.length ≤ 16 := by rw [Hok2.out.len]; have := Hps2.out.1; omega
          have hgl : Lg.length ≤ 16 := by rw [Hok.out.glen]; have := Hps.out.2; omega
          have hg2l : G2.length ≤ 16 := by rw [Hok2.out.glen]; have := Hps2.out.2; omega
          replace S := S.perm (perm_xy [_, _, _, _, _] [_, _, _, _] [_, _, _, _, _] _)
          replace S : St b 27000 w1 wc (logP X K l.length ck v B qs AT La GN (.mapG keyStr GN Lg :: othP X2 K3 l2.length ck3 v3 B5 q2 AT2 L2 GN2 G2 (rlgP Y K2 l.length ck2 v2 Y ps fs g2 Y gn (rlgP Y2 K4 l2.length ck4 v4 Y2 p2 f2 g4 Y2 gn2 (.sl rScm K l :: .sl rScm K3 l2 :: T0))))) := S
          have hTM := HTW.out _ _ S.g
          have hK1 : Sl rScm (fun _ => False) wc K l := (S.slc 18 rfl).mono (fun _ _ h => h.elim)
          obtain ⟨wb, _, M, back⟩ := S.viaMem
          have Hjn := Lib.hid (join_log _ X l K ck v B qs AT La GN Lg X2 K3 l2.length ck3 v3 B5 q2 AT2 L2 GN2 G2 M hK1 (scms_good HF1.out) Hok.out.tm Hok.out.go Hok.out.s.lo Hok2.out.s.lo (by omega) (by omega) (by omega) (by omega) Hok.out.qsm Hok2.out.qsm hTM.1 hTM.2 hBX)
          have HBk := Lib.hid back
          clear S M back hTM hK1 hql hq2l hgl hg2l
          go_wp2_with fail
          refine (Hjn.out).mono ?_
          rintro e wA ⟨N1, er1, rfl, hto1, hM1⟩
          clear Hjn
          have Hto1 := Lib.hid hto1
          clear hto1
          obtain ⟨v9, qs9, La9, Lg9, S, Hq9⟩ : ∃ (v9 : Value) (qs9 : List EQ) (La9 Lg9 : List (ByteArray × Value)), St b 27000 w1 wA (logP X K l.length ck v9 B qs9 AT La9 GN (.mapG keyStr GN Lg9 :: othP X2 K3 l2.length ck3 v3 B5 q2 AT2 L2 GN2 G2 (rlgP Y K2 l.length ck2 v2 Y ps fs g2 Y gn (rlgP Y2 K4 l2.length ck4 v4 Y2 p2 f2 g4 Y2 gn2 (.sl rScm K l :: .sl rScm K3 l2 :: T0))))) ∧ Hid ((er1 ≠ 0 ∧ N1 = 0 ∧ qs9 = qs ∧ La9 = La ∧ Lg9 = Lg) ∨ (er1 = 0 ∧ N1 = qs9.length ∧ JoinedP qs Lg q2 G2 qs9 La9 Lg9)) := by
            rcases hM1 with ⟨h1, h2, hM⟩ | ⟨h1, v', qs', La', Lg', h2, h3, hM⟩
            · exact ⟨v, qs, La, Lg, HBk.out _ _ hM, .inl ⟨h1, h2, rfl, rfl, rfl⟩⟩
            · exact ⟨v', qs', La', Lg', HBk.out _ _ hM, .inr ⟨h1, h2, h3⟩⟩
          clear hM1 HBk
          replace S := S.perm (perm_vw [_, _, _, _, _] [_, _, _, _, _] [_, _, _, _] [_, _, _, _] _)
          replace S : St b 27000 w1 wA (rlgP Y K2 l.length ck2 v2 Y ps fs g2 Y gn (rlgP Y2 K4 l2.length ck4 v4 Y2 p2 f2 g4 Y2 gn2 (logP X K l.length ck v9 B qs9 AT La9 GN (.mapG keyStr GN Lg9 :: othP X2 K3 l2.length ck3 v3 B5 q2 AT2 L2 GN2 G2 (.sl rScm K l :: .sl rScm K3 l2 :: T0))))) := S
          have hTM := HTW.out _ _ S.g
          have hK1 : Sl rScm (fun _ => False) wA K2 l := (S.slc (0 + 20) H0.out).mono (fun _ _ h => h.elim)
          obtain ⟨wb, _, M, back⟩ := S.viaMem
          have Hjn := Lib.hid (join_rlg _ Y l K2 ck2 v2 Y ps fs g2 Y gn Y2 K4 l2.length ck4 v4 Y2 p2 f2 g4 Y2 gn2 M hK1 Hsm.out.ok Hsub.out Hsub2.out Hok.out.pn Hok2.out.pn Hok.out.apR Hok2.out.apR (by have := Hps.out; omega) (by have := Hps2.out; omega) (by have := Hps.out; omega) (by have := Hps2.out; omega) hTM.1 hTM.2 (Nat.le_refl _) (Nat.le_refl _))
          have HBk := Lib.hid back
          clear S M back hTM hK1
          go_wp2_with fail
          refine (Hjn.out).mono ?_
          rintro e wB ⟨N2, er2, rfl, hto2, hM2⟩
          clear Hjn
          have hFe : evFault l = sufF l := funext fun x => evF_suf HF1.out
          rw [hFe] at hto2
          obtain rfl : er1 = er2 := Hto1.out.one (hto2.turn Hok.out.mems Hok2.out.mems Hok.out.s.gs)
          clear hto2 hFe Hto1
          obtain ⟨v8, ps9, fs9, g9, gn9, S, HN, Hok9, Hsub9, Hps9⟩ : ∃ (v8 : Value) (ps9 fs9 : List EQ) (g9 : Value) (gn9 : List ByteArray), St b 27000 w1 wB (rlgP Y K2 l.length ck2 v8 Y ps9 fs9 g9 Y gn9 (rlgP Y2 K4 l2.length ck4 v4 Y2 p2 f2 g4 Y2 gn2 (logP X K l.length ck v9 B qs9 AT La9 GN (.mapG keyStr GN Lg9 :: othP X2 K3 l2.length ck3 v3 B5 q2 AT2 L2 GN2 G2 (.sl rScm K l :: .sl rScm K3 l2 :: T0))))) ∧ Hid (N1 = N2) ∧ Hid (LogOk qs9 ps9 La9 Lg9 gn9) ∧ Hid (SubOk ps9 fs9) ∧ Hid (ps9.length ≤ 900 ∧ gn9.length ≤ 900) := by
            rcases hM2 with ⟨h1, h2, hM⟩ | ⟨h1, v', ps', g', gn', h2, h3, hM⟩
            · rcases Hq9.out with ⟨_, h4, rfl, rfl, rfl⟩ | ⟨h4, _⟩
              · exact ⟨v2, ps, fs, g2, gn, HBk.out _ _ hM, by show _ = _; rw [h4, h2], Hok, Hsub, by have := Hps.out; exact ⟨by omega, by omega⟩⟩
              · exact absurd h4 h1
            · rcases Hq9.out with ⟨h4, _⟩ | ⟨_, h4, h5⟩
              · exact absurd h1 h4
              · have hok := Hok.out.join Hok2.out h5.lo h5.tm h5.go h5.nd h5.ks h5.ms h3.pn h3.gd h3.gs h3.ms
                exact ⟨v', ps', fs ++ f2, g', gn', HBk.out _ _ hM, by show _ = _; rw [h4, h2, hok.len], hok, ⟨fun p hp => by
                  rcases h3.su p hp with h | h
                  · exact List.mem_append_left _ (Hsub.out.1 p h)
                  · exact List.mem_append_right _ (Hsub2.out.1 p h), fun p hp => (List.mem_append.1 hp).elim (Hsub.out.2 p) (Hsub2.out.2 p)⟩, by have h6 := h3.ln; have h7 := h3.gl; have := Hps.out; have := Hps2.out; exact ⟨by omega, by omega⟩⟩
          have hN := HN.out
          subst hN
          clear hM2 HBk Hq9 HN Hok Hsub Hps
          clear v qs La Lg v2 ps fs g2 gn
          obtain ⟨v, hv⟩ : ∃ v, v = v9 := ⟨_, rfl⟩
          obtain ⟨qs, hqs⟩ : ∃ qs, qs = qs9 := ⟨_, rfl⟩
          obtain ⟨La, hLa⟩ : ∃ La, La = La9 := ⟨_, rfl⟩
          obtain ⟨Lg, hLg⟩ : ∃ Lg, Lg = Lg9 := ⟨_, rfl⟩
          obtain ⟨v2, hv2⟩ : ∃ v2, v2 = v8 := ⟨_, rfl⟩
          obtain ⟨ps, hps⟩ : ∃ ps, ps = ps9 := ⟨_, rfl⟩
          obtain ⟨fs, hfs⟩ : ∃ fs, fs = fs9 := ⟨_, rfl⟩
          obtain ⟨g2, hg2⟩ : ∃ g2, g2 = g9 := ⟨_, rfl⟩
          obtain ⟨gn, hgn⟩ : ∃ gn, gn = gn9 := ⟨_, rfl⟩
          subst hv hqs hLa hLg hv2 hps hfs hg2 hgn
          have Hok := Hok9
          have Hsub := Hsub9
          have Hps := Hps9
          replace S := (S.perm (perm_vw [_, _, _, _, _] [_, _, _, _, _] [_, _, _, _] [_, _, _, _] _).symm).perm (perm_xy [_, _, _, _, _] [_, _, _, _, _] [_, _, _, _] _)
          replace S : St b 27000 w1 wB (lgsP X K l.length ck v B qs AT La GN Lg Y K2 ck2 v2 Y ps fs g2 Y gn (lgsP X2 K3 l2.length ck3 v3 B5 q2 AT2 L2 GN2 G2 Y2 K4 ck4 v4 Y2 p2 f2 g4 Y2 gn2 (.sl rScm K l :: .sl rScm K3 l2 :: T0))) := S
          clear Hok9 Hsub9 Hps9
          replace Hps2 : Hid (p2.length ≤ 900 ∧ gn2.length ≤ 900) := by have := Hps2.out; exact ⟨by omega, by omega⟩
          obtain ⟨A1, c1, e1⟩ := (S.ow 1 rfl).len
          subst e1
          have hnil1 : A1 = none → c1 = 0 := fun e => by
            rcases (S.ow 1 rfl).shape2 with ⟨e2, h0⟩ | ⟨g9, cap, e2, _⟩
            · simp only [Value.slice.injEq] at e2
              exact e2.2.2
            · rw [e] at e2; simp at e2
          obtain ⟨A2, c2, e2⟩ := (S.ow 6 rfl).len
          subst e2
          have hnil2 : A2 = none → c2 = 0 := fun e => by
            rcases (S.ow 6 rfl).shape2 with ⟨e2, h0⟩ | ⟨g9, cap, e2, _⟩
            · simp only [Value.slice.injEq] at e2
              exact e2.2.2
            · rw [e] at e2; simp at e2
          have Hnil2 : Hid (A2 = none → c2 = 0) := hnil2
          have hql : qs.length ≤ 900 := by rw [Hok.out.len]; exact Hps.out.1
          have Hql := Lib.hid hql
          have Hcp := Lib.hid (events_log X K l.length ck A1 c1 AT GN qs wB (S.lv 0 rfl) ((S.ow 1 rfl).slF flatEQ) (fun q hq => (S.fl 2 rfl q hq).mono (fun _ _ h => h.elim)) (Nat.le_trans hql (by decide)) hnil1 (fun q hq => Nat.le_trans (Hok.out.qsm q hq).fl (by decide)))
          have x0 := (S.lv 0 rfl).all
          clear hnil1 hnil2 hql
          go_wp2_with fail
          refine (Hcp.out).mono ?_
          rintro e w21 ⟨v9, zs, rfl, hz, T9⟩
          obtain ⟨A3, c3, e3, T8⟩ := T9.frz 0 rfl
          have hzl : zs.length = qs.length := by have := congrArg List.length hz; simpa using this
          rw [hzl] at e3
          subst e3
          have T7 : Mem wB w21 [.sl rEQ A3 zs, .flds zs] := T8
          have T6 : Mem wB w21 [.sl rEvt A3 (qs.map EQ.e)] := by rw [← hz]; exact (T7.evs 0 1 rfl rfl).del 1
          obtain ⟨wb, _, M, back⟩ := S.viaMem
          replace S := (back _ _ (M.join T6)).front
          clear Hcp x0 hz T9 T8 T7 T6 M back hzl
          have Hle := Lib.hid (rlgEvents_any Y K2 l.length ck2 g2 A2 c2 ps w21 (S.lv 6 rfl) ((S.ow 7 rfl).slF flatEQ) (Nat.le_trans Hps.out.1 (by decide)) Hnil2.out)
          have y0 := (S.lv 6 rfl).all
          go_wp2_with fail
          refine (Hle.out).mono ?_
          rintro e w22 ⟨A4, c4, ys, he, hyp, hys, T9⟩
          have hye := Hok.out.evs hyp hys
          have hyl : ys.length = qs.length := by have := congrArg List.length hye; simpa using this
          rw [hyl] at he
          subst he
          obtain ⟨wb, _, M, back⟩ := S.viaMem
          replace S := (back _ _ (M.join T9)).front
          have h8 : Sl rEvt (fun _ => False) w22 A4 (qs.map EQ.e) := by
            rw [← hye]
            exact slEvt ((S.slc 0 rfl).mono (fun _ _ h => h.elim)) (fun y hy => (S.fl 9 rfl y (Hsub.out.1 y (hyp.mem_iff.1 hy))).mono (fun _ _ h => h.elim))
          have Hse := Lib.hid (sameEvents_any (fun _ => False) A3 A4 (qs.map EQ.e) c3 c4 w22 ((S.slc 1 rfl).mono (fun _ _ h => h.elim)) h8 (by rw [List.length_map]; exact Nat.le_trans Hql.out (by decide)) (fun x hx => by
            obtain ⟨q, hq, rfl⟩ := List.mem_map.1 hx
            exact Nat.le_trans (Hok.out.qsm q hq).fl (by decide)))
          rw [List.length_map] at Hse
          clear Hle y0 hyp hys hye hyl T9 M back h8
          go_wp2_with fail
          refine (Hse.out).mono ?_
          rintro e w23 ⟨rfl, hb9⟩
          replace S := ((S.below hb9).del 0).del 0
          clear Hse hb9
          have Hrt := Lib.hid (retracted_log X K l.length ck (.slice A1 qs.length c1) AT GN Lg w23 (S.lv 0 rfl) (S.ok (.mapG keyStr GN Lg) (.tail _ (.tail _ (.tail _ (.tail _ (.head _)))))) (by rw [Hok.out.glen]; exact Nat.le_trans Hps.out.2 (by decide)))
          have x0 := (S.lv 0 rfl).all
          go_wp2_with fail
          refine (Hrt.out).mono ?_
          rintro e w24 ⟨A5, c5, rfl, T9⟩
          obtain ⟨wb, _, M, back⟩ := S.viaMem
          replace S := (back _ _ (M.join T9)).front
          obtain ⟨A6, c6, e6⟩ := (S.ow 9 rfl).len
          subst e6
          have hrr := rtd_rlg Y K2 l.length ck2 (.slice A2 ps.length c2) A6 c6 gn w24 (S.lv 6 rfl) ((S.ow 9 rfl).slF flatStr) (Nat.le_trans Hps.out.2 (by decide))
          rw [← Hok.out.goneW] at hrr
          have Hrr := Lib.hid hrr
          have y0 := (S.lv 6 rfl).all
          clear Hrt x0 T9 M back hrr
          go_wp2_with fail
          refine (Hrr.out).mono ?_
          rintro e w25 ⟨A7, c7, rfl, T9⟩
          obtain ⟨wb, _, M, back⟩ := S.viaMem
          replace S := (back _ _ (M.join T9)).front
          have Hes := Lib.hid (eqStr_any (fun _ => False) A5 A7 (srtW (Lg.map Prod.fst)) c5 c7 w25 ((S.slc 1 rfl).mono (fun _ _ h => h.elim)) ((S.slc 0 rfl).mono (fun _ _ h => h.elim)) (by rw [srtW_len, List.length_map, Hok.out.glen]; exact Nat.le_trans Hps.out.2 (by decide)))
          clear Hrr y0 T9 M back
          go_wp2_with fail
          refine (Hes.out).mono ?_
          rintro e w26 ⟨rfl, hb9⟩
          replace S := (((S.below hb9).del 0).del 0).perm (List.perm_append_comm_assoc [_, _, _, _, _, _, _, _, _] [_, _, _, _, _, _, _, _, _] _)
          clear Hes hb9
          obtain ⟨A1, c1, e1⟩ := (S.ow 1 rfl).len
          subst e1
          have hnil1 : A1 = none → c1 = 0 := fun e => by
            rcases (S.ow 1 rfl).shape2 with ⟨e2, h0⟩ | ⟨g9, cap, e2, _⟩
            · simp only [Value.slice.injEq] at e2
              exact e2.2.2
            · rw [e] at e2; simp at e2
          obtain ⟨A2, c2, e2⟩ := (S.ow 6 rfl).len
          subst e2
          have hnil2 : A2 = none → c2 = 0 := fun e => by
            rcases (S.ow 6 rfl).shape2 with ⟨e2, h0⟩ | ⟨g9, cap, e2, _⟩
            · simp only [Value.slice.injEq] at e2
              exact e2.2.2
            · rw [e] at e2; simp at e2
          have Hnil2 : Hid (A2 = none → c2 = 0) := hnil2
          have hql : q2.length ≤ 900 := by rw [Hok2.out.len]; exact Hps2.out.1
          have Hql := Lib.hid hql
          have Hcp := Lib.hid (events_log X2 K3 l2.length ck3 A1 c1 AT2 GN2 q2 w26 (S.lv 0 rfl) ((S.ow 1 rfl).slF flatEQ) (fun q hq => (S.fl 2 rfl q hq).mono (fun _ _ h => h.elim)) (Nat.le_trans hql (by decide)) hnil1 (fun q hq => Nat.le_trans (Hok2.out.qsm q hq).fl (by decide)))
          have x0 := (S.lv 0 rfl).all
          clear hnil1 hnil2 hql
          go_wp2_with fail
          refine (Hcp.out).mono ?_
          rintro e w21 ⟨v9, zs, rfl, hz, T9⟩
          obtain ⟨A3, c3, e3, T8⟩ := T9.frz 0 rfl
          have hzl : zs.length = q2.length := by have := congrArg List.length hz; simpa using this
          rw [hzl] at e3
          subst e3
          have T7 : Mem w26 w21 [.sl rEQ A3 zs, .flds zs] := T8
          have T6 : Mem w26 w21 [.sl rEvt A3 (q2.map EQ.e)] := by rw [← hz]; exact (T7.evs 0 1 rfl rfl).del 1
          obtain ⟨wb, _, M, back⟩ := S.viaMem
          replace S := (back _ _ (M.join T6)).front
          clear Hcp x0 hz T9 T8 T7 T6 M back hzl
          have Hle := Lib.hid (rlgEvents_any Y2 K4 l2.length ck4 g4 A2 c2 p2 w21 (S.lv 6 rfl) ((S.ow 7 rfl).slF flatEQ) (Nat.le_trans Hps2.out.1 (by decide)) Hnil2.out)
          have y0 := (S.lv 6 rfl).all
          go_wp2_with fail
          refine (Hle.out).mono ?_
          rintro e w22 ⟨A4, c4, ys, he, hyp, hys, T9⟩
          have hye := Hok2.out.evs hyp hys
          have hyl : ys.length = q2.length := by have := congrArg List.length hye; simpa using this
          rw [hyl] at he
          subst he
          obtain ⟨wb, _, M, back⟩ := S.viaMem
          replace S := (back _ _ (M.join T9)).front
          have h8 : Sl rEvt (fun _ => False) w22 A4 (q2.map EQ.e) := by
            rw [← hye]
            exact slEvt ((S.slc 0 rfl).mono (fun _ _ h => h.elim)) (fun y hy => (S.fl 9 rfl y (Hsub2.out.1 y (hyp.mem_iff.1 hy))).mono (fun _ _ h => h.elim))
          have Hse := Lib.hid (sameEvents_any (fun _ => False) A3 A4 (q2.map EQ.e) c3 c4 w22 ((S.slc 1 rfl).mono (fun _ _ h => h.elim)) h8 (by rw [List.length_map]; exact Nat.le_trans Hql.out (by decide)) (fun x hx => by
            obtain ⟨q, hq, rfl⟩ := List.mem_map.1 hx
            exact Nat.le_trans (Hok2.out.qsm q hq).fl (by decide)))
          rw [List.length_map] at Hse
          clear Hle y0 hyp hys hye hyl T9 M back h8
          go_wp2_with fail
          refine (Hse.out).mono ?_
          rintro e w23 ⟨rfl, hb9⟩
          replace S := ((S.below hb9).del 0).del 0
          clear Hse hb9
          have Hrt := Lib.hid (retracted_log X2 K3 l2.length ck3 (.slice A1 q2.length c1) AT2 GN2 G2 w23 (S.lv 0 rfl) (S.ok (.mapG keyStr GN2 G2) (.tail _ (.tail _ (.tail _ (.tail _ (.head _)))))) (by rw [Hok2.out.glen]; exact Nat.le_trans Hps2.out.2 (by decide)))
          have x0 := (S.lv 0 rfl).all
          go_wp2_with fail
          refine (Hrt.out).mono ?_
          rintro e w24 ⟨A5, c5, rfl, T9⟩
          obtain ⟨wb, _, M, back⟩ := S.viaMem
          replace S := (back _ _ (M.join T9)).front
          obtain ⟨A6, c6, e6⟩ := (S.ow 9 rfl).len
          subst e6
          have hrr := rtd_rlg Y2 K4 l2.length ck4 (.slice A2 p2.length c2) A6 c6 gn2 w24 (S.lv 6 rfl) ((S.ow 9 rfl).slF flatStr) (Nat.le_trans Hps2.out.2 (by decide))
          rw [← Hok2.out.goneW] at hrr
          have Hrr := Lib.hid hrr
          have y0 := (S.lv 6 rfl).all
          clear Hrt x0 T9 M back hrr
          go_wp2_with fail
          refine (Hrr.out).mono ?_
          rintro e w25 ⟨A7, c7, rfl, T9⟩
          obtain ⟨wb, _, M, back⟩ := S.viaMem
          replace S := (back _ _ (M.join T9)).front
          have Hes := Lib.hid (eqStr_any (fun _ => False) A5 A7 (srtW (G2.map Prod.fst)) c5 c7 w25 ((S.slc 1 rfl).mono (fun _ _ h => h.elim)) ((S.slc 0 rfl).mono (fun _ _ h => h.elim)) (by rw [srtW_len, List.length_map, Hok2.out.glen]; exact Nat.le_trans Hps2.out.2 (by decide)))
          clear Hrr y0 T9 M back
          go_wp2_with fail
          refine (Hes.out).mono ?_
          rintro e w27 ⟨rfl, hb9⟩
          replace S := ((S.below hb9).del 0).del 0
          clear Hes hb9
          have Hbw5 := Lib.hid (HTS.out _ _ S.g)
          clear S
          go_wp2_with fail
          refine (happenings_any w27).mono ?_
          rintro e w90 ⟨rfl, hl90⟩
          go_wp2_with fail
          go_ret
          refine ⟨rfl, ?_⟩
          have hfin := Hbw5.out.2.trans (hl90.mono Hbw5.out.1)
          rw [show b = w.heap.size from Hbw.out] at hfin
          exact hfin
      · have Hbw5 := Lib.hid (HTS.out _ _ S.g)
        clear S
        go_wp2_with fail
        refine (happenings_any w6).mono ?_
        rintro e w90 ⟨rfl, hl90⟩
        go_wp2_with fail
        go_ret
        refine ⟨rfl, ?_⟩
        have hfin := Hbw5.out.2.trans (hl90.mono Hbw5.out.1)
        rw [show b = w.heap.size from Hbw.out] at hfin
        exact hfin
    · have Hbw5 := Lib.hid (HTS.out _ _ S.g)
      clear S
      go_wp2_with fail
      refine (happenings_any w5).mono ?_
      rintro e w90 ⟨rfl, hl90⟩
      go_wp2_with fail
      go_ret
      refine ⟨rfl, ?_⟩
      have hfin := Hbw5.out.2.trans (hl90.mono Hbw5.out.1)
      rw [show b = w.heap.size from Hbw.out] at hfin
      exact hfin
end Go.Proofs.YtmlpkejeglpciaaGreatDoor
