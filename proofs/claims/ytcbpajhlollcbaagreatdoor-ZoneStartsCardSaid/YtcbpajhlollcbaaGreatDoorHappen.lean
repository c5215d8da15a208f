/- What handlaw2.happenings returns: true. -/
import Derived.Test.YtcbpajhlollcbaaGreatDoorLocal
import Derived.Test.YtcbpajhlollcbaaGreatDoorGenZone
import Derived.Test.YtcbpajhlollcbaaGreatDoorBytes
import Derived.Carry
namespace Go.Proofs.YtcbpajhlollcbaaGreatDoor
open Go.RowKit
set_option maxHeartbeats 1000000 in
theorem checkEvents_nil (w : World) : Calls Tryz.prog 100 #[.slice none 0 0] w fun e w' => e = .returned (.int .i64 0) ∧ Below w.heap.size w w' := by
  have hmm := @run_makeMap Tryz.prog
  go_enter Tryz.func100, Tryz.ntmps100
  go_wp2_with fail
  go_loopw [13] (fun i wr => i = .int .i64 0 ∧ Below w.heap.size w wr) (fun _ _ => 0)
  case atStart => exact ⟨rfl, (Below.refl _ _).alloc (Nat.le_refl _) _⟩
  case round =>
    obtain ⟨rfl, hbl⟩ := hrel
    go_wp2_with fail
    go_ret
    exact ⟨rfl, hbl⟩
theorem OwnB.len {B : Nat} {v : Value} {l : List UInt8} {w : World} (h : OwnB B v l w) : ∃ A c, v = .slice A l.length c := by
  rcases h.2 with ⟨rfl, h0⟩ | ⟨g, cap, cur, rfl, _⟩
  · exact ⟨none, 0, by rw [h0]⟩
  · exact ⟨_, cap, rfl⟩
set_option maxHeartbeats 1000000 in
theorem varint_zero (P : Nat) (mp : Value) (w : World) (h : LV w P #[.slice none 0 0, mp] 145) : Calls Tryz.prog 101 #[.pointer (some ⟨P, 0, none⟩), .int .i64 0] w
    fun e w' => ∃ v', e = .returned (.tuple #[]) ∧ LV w' P #[v', mp] 145 ∧ OwnB w.heap.size v' [0] w' ∧ Below P w w' := by
  go_enter Tryz.func101, Tryz.ntmps101
  go_wp2_with fail
  go_loopw [1] (fun i wr => i = .int .i64 0 ∧ w = wr) (fun _ _ => 0)
  case atStart => exact ⟨rfl, rfl⟩
  case round =>
    obtain ⟨rfl, rfl⟩ := hrel
    have c0 : w.cell? ⟨P, 0, none⟩ = some (.slice none 0 0) := h.cell 0 _ rfl
    have f0 := h.free 0
    have hlt := h.lt
    go_wp2_with (at_builtin; refine app_bytes (w0 := w) rfl _ _ rfl w.heap.size _ _ [0] _ _ rfl (OwnB.nil w.heap.size w) rfl rfl rfl (Nat.le_refl _) (by simp) ?_; intro v' w2 hb2 hg2 hl2; obtain ⟨A2, k2, rfl⟩ := hb2.len; have h2 := LV.grown (row := none) h hg2 (by simp); have d0 : w2.cell? ⟨P, 0, none⟩ = some (.slice none 0 0) := h2.cell 0 _ rfl; have f2 := h2.free 0)
    have hp := h2.set 0 (.slice A2 1 k2) #[.slice A2 1 k2, mp] rfl
    have ho : OwnB w.heap.size (.slice A2 1 k2) [0] (w2.setCell ⟨P, 0, none⟩ (.slice A2 1 k2)) := ownsRow_setCell_other hb2 (by
      intro e
      have := (World.ownsRow.lt hb2 P e).1
      omega) _
    go_end0
    refine ⟨_, rfl, hp, ho, (hl2.mono (by omega)).trans ⟨rfl, rfl, rfl, by simp [World.setCell], fun k hk => Below.heap_setCell _ _ _ _ (by show k ≠ P; omega)⟩⟩
set_option maxHeartbeats 1000000 in
theorem pack_nil (w : World) : Calls Tryz.prog 55 #[.slice none 0 0] w fun e w' => e = .returned (.tuple #[.string ⟨#[0]⟩, .int .i64 0]) ∧ Below w.heap.size w w' := by
  have hmm := @run_makeMap Tryz.prog
  go_enter Tryz.func55, Tryz.ntmps55
  go_wp2_with fail
  ((with_reducible refine (checkEvents_nil w).mono ?_); rintro e w1 ⟨rfl, hl_w1⟩)
  have hz_w1 := hl_w1.size
  have Hb2 : Hid (Below w.heap.size w ((w1.alloc (.map #[] 0)).alloc (.cells #[.slice none 0 0, .map (some w1.heap.size)] 145))) := (hl_w1.alloc hz_w1 _).alloc (by simp; omega) _
  have lv2 := LV.new (w1.alloc (.map #[] 0)) (w1.heap.size + 1) #[.slice none 0 0, .map (some w1.heap.size)] 145 (by simp)
  go_wp2_with fail
  ((with_reducible refine (varint_zero _ _ _ lv2).mono ?_); rintro e w3 ⟨v3, rfl, lv3, ho3, hl3⟩)
  have Hb3 := Lib.hid (Hb2.out.trans (hl3.mono (by omega)))
  obtain ⟨A3, k3, rfl⟩ := ho3.len
  have c3 : w3.cell? ⟨w1.heap.size + 1, 0, none⟩ = some (.slice A3 1 k3) := lv3.cell 0 _ rfl
  have hcv : (convert 143 9 (.slice A3 1 k3)).run Tryz.prog w3 = .ok (.string ⟨#[0]⟩) w3 := OwnB.conv ho3
  clear lv2 lv3 ho3 hl3 hl_w1
  go_wp2_with fail
  go_loopw [25] (fun i wr => i = .int .i64 0 ∧ w3 = wr) (fun _ _ => 0)
  case atStart => exact ⟨rfl, rfl⟩
  case round =>
    obtain ⟨rfl, rfl⟩ := hrel
    go_wp2_with fail
    go_ret2
    exact ⟨rfl, Hb3.out⟩
theorem utc_ok : zoneFault ⟨#[117, 116, 99]⟩ [⟨0, 0⟩] = 0 := by decide +kernel
theorem utc_day : readV 0 3000 (dayIn (clk [⟨0, 0⟩] 3000)) = .tuple #[.int .i64 2, .int .i64 0] := by rfl
set_option maxHeartbeats 1000000 in
theorem happenings_any (w : World) : Calls Tryz.prog 16 #[] w fun e w' => e = .returned (.bool true) ∧ Below w.heap.size w w' := by
  have hb0 : Below w.heap.size w (w.alloc (.cells #[.int .i64 0, .int .i64 0] 78)) := (Below.refl _ _).alloc (Nat.le_refl _) _
  obtain ⟨A, c, e, hS⟩ := (Own.lit (N := fun _ => False) (B := w.heap.size) (E := 78) (xs := [⟨0, 0⟩]) flatSft w #[.int .i64 0, .int .i64 0] 1 (Nat.le_refl _) rfl (by omega) rfl rfl).toSl (fun _ _ h => h)
  cases e
  have Hd := Lib.hid (day_any (fun _ => False) _ ⟨#[117, 116, 99]⟩ [⟨0, 0⟩] 1 3000 _ hS (by decide) (by decide) (fun s hs => by rw [List.mem_singleton.1 hs]; exact ⟨by decide, by decide⟩))
  rw [utc_ok, utc_day, List.length_singleton] at Hd
  have Hb0 := Lib.hid hb0
  clear hS hb0
  go_enter Tryz.func16, Tryz.ntmps16
  go_wp2_with fail
  ((with_reducible refine (Hd.out).mono ?_); rintro e w1 ⟨rfl, hl_w1⟩)
  have hz_w1 := hl_w1.size
  have Hb1 := Lib.hid (Hb0.out.trans (hl_w1.mono (by simp)))
  clear Hd hl_w1 hz_w1
  go_wp2_with fail
  ((with_reducible refine (pack_nil w1).mono ?_); rintro e w2 ⟨rfl, hl_w2⟩)
  have hz_w2 := hl_w2.size
  have Hb2 := Lib.hid (Hb1.out.trans (hl_w2.mono Hb1.out.size))
  clear hl_w2 hz_w2
  go_wp2_with fail
  go_ret
  exact ⟨rfl, Hb2.out⟩
end Go.Proofs.YtcbpajhlollcbaaGreatDoor
