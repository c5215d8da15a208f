/- Several texts in one: GenEvF, ViaMem. -/
import Derived.Test.YtmlpkejeglpciaaGreatDoorPkAU
import Derived.Test.YtmlpkejeglpciaaGreatDoorPkAE
/- What the generator EventFor makes. -/
namespace Go.Proofs.YtmlpkejeglpciaaGreatDoor
open Go Go.RowKit
set_option maxHeartbeats 8000000 in
set_option maxRecDepth 100000 in
theorem eventFor_any (b m : Nat) (A : Option Addr) (l : List Scm) (c : Nat) (id : ByteArray) (at' : Int) (w : World) (hs : Strm b m w) (hm : m ≤ 10000000) (hid : id.size ≤ 1000) (hN : Names w) (hNb : 1 ≠ b) (hE : ENames w) (hEb : 0 ≠ b) (hP : Pool w) (hPb : 2 ≠ b)
    (hS : Sl rScm (Off b) w A l) (hsm : ScmSm l) :
    Calls Tryz.prog 48 #[.pointer (some ⟨b, 0, none⟩), .slice A l.length c, .string id, .int .i64 at'] w (DrawsEvt b (m + 1400) w) := by
  have S := (St.start hs).new' ezCs 47
  replace S : St b m w (w.alloc (.cells ezCs 47)) [.loc w.heap.size ezCs 47] := S
  have HS := Lib.hid hS
  have Hsm := Lib.hid hsm
  have hll := hsm.len
  have Hev := Lib.hid (event_any b m id at' _ S.g.s (by omega) hid (hN.keep S.g.k hNb) hNb (hE.keep S.g.k hEb) hEb (hP.keep S.g.k hPb) hPb)
  clear hs hN hE hP hS hsm
  obtain ⟨R, hR⟩ : ∃ R, R = w.heap.size := ⟨_, rfl⟩
  rw [← hR] at S
  go_enter Tryz.func48, Tryz.ntmps48
  go_upto_region 1 with fail
  generalize w.alloc (.cells ezCs 47) = w1 at *
  rw [← hR]
  clear hR
  go_wp2_with fail
  refine (Hev.out).mono ?_
  rintro e w2 ⟨x, Ax, cx, rfl, hx, T⟩
  have Hx := Lib.hid hx
  replace S : St b (m + 1100) w w2 [.loc R ezCs 47, .sl rFld Ax x.flds] := S.join T
  clear Hev T hx
  go_upto_region 2 with fail
  obtain ⟨Y, hY⟩ : ∃ Y, Y = w2.heap.size := ⟨_, rfl⟩
  replace S : St b (m + 1100) w (w2.alloc (.cells (evCs x Ax cx) 47)) [.loc R ezCs 47, .sl rFld Ax x.flds, .loc Y (evCs x Ax cx) 47] := S.newAt (evCs x Ax cx) 47 Y hY
  rw [← hY]
  clear hY
  generalize w2.alloc (.cells (evCs x Ax cx) 47) = w3 at *
  have HS3 := Lib.hid (HS.out.keep S.g.k.n)
  go_cut [24] (fun s24 wx => ∃ B : Bool, s24 = .bool B ∧ (B = false → 0 < l.length) ∧ SK b w3 wx ∧ Strm b (m + 1101) wx)
  case first =>
    by_cases h0 : l.length = 0
    · have h0' : ((l.length : Int) == 0) = true := by simpa using h0
      go_wp2_with fail
      go_meet
      exact ⟨true, rfl, (fun h => by cases h), SK.refl _ _, S.g.s.mono (by omega)⟩
    · have h0' : ((l.length : Int) == 0) = false := by simpa using h0
      go_wp2_with fail
      refine (flip_any b _ _ _ S.g.s (by omega) (by omega) (by omega)).mono ?_
      rintro e w4 ⟨r4, rfl, hk4, hs4⟩
      go_wp2_with fail
      go_meet
      exact ⟨r4, rfl, (fun _ => by omega), hk4, hs4⟩
  case rest =>
    obtain ⟨B, rfl, hB, hkc, hsc⟩ := hcut
    have HB := Lib.hid hB
    replace S := S.step hkc hsc
    clear hkc hsc hB
    cases B
    · have h0 := HB.out rfl
      go_wp2_with fail
      refine (next_any b _ _ _ S.g.s (by omega) (by omega) (by omega)).mono ?_
      rintro e w4 ⟨kk, kk_lo, kk_hi, rfl, hk_w4, hs_w4⟩
      replace S := S.step hk_w4 hs_w4
      clear hk_w4 hs_w4
      obtain ⟨k, rfl⟩ := Int.eq_ofNat_of_zero_le (by omega : 0 ≤ kk)
      have hk : k < l.length := by omega
      obtain ⟨s, hs⟩ : ∃ s, l[k]? = some s := ⟨_, List.getElem?_eq_getElem hk⟩
      have hsmem := List.mem_of_getElem? hs
      have hnl := Hsm.out.nl s hsmem
      have hnm := Hsm.out.nm s hsmem
      have Hnn := Lib.hid (Hsm.out.nn s hsmem)
      obtain ⟨blk, off, An, cn, rfl, hblk, e0, e1, hst⟩ := HS.out.scm k s hs
      have hne : blk ≠ b := fun e => Sl.nin HS.out hs blk off rfl e
      have d0 := (World.cell?_of_block (a := ⟨blk, off + k * 2, none⟩) (S.g.k.block blk hblk hne)).trans e0
      have d1 := (World.cell?_of_block (a := ⟨blk, off + k * 2 + 1, none⟩) (S.g.k.block blk hblk hne)).trans e1
      have HNd : Hid (∀ w', SK b w w' → Sl rNd (Off b) w' An s.needs) := fun w' h => hst.keep h.n
      clear hst hs hsmem HB HS3 e0 e1
      go_upto_region 5 with fail
      clear d0 d1
      obtain ⟨X, hX⟩ : ∃ X, X = w4.heap.size := ⟨_, rfl⟩
      replace S : St b (m + 1101 + 1) w (w4.alloc (.cells #[.string s.name, .slice An s.needs.length cn] 73)) [.loc R ezCs 47, .sl rFld Ax x.flds, .loc Y (evCs x Ax cx) 47, .loc X #[.string s.name, .slice An s.needs.length cn] 73] := S.newAt #[.string s.name, .slice An s.needs.length cn] 73 X hX
      rw [← hX]
      clear hX
      generalize w4.alloc (.cells #[.string s.name, .slice An s.needs.length cn] 73) = w5 at *
      have x3 := (S.lv 3 rfl).all
      have x2 := (S.lv 2 rfl).all
      go_upto_region 6 with fail
      replace S : St b (m + 1101 + 1) w ((w5.setCell ⟨Y, 1, none⟩ (.string s.name)).setCell ⟨Y, 5, none⟩ (.slice none 0 0)) [.loc R ezCs 47, .sl rFld Ax x.flds, .loc Y (evCs ⟨x.id, s.name, x.at', x.kind, x.text, []⟩ none 0) 47, .loc X #[.string s.name, .slice An s.needs.length cn] 73] := (S.set 2 1 (.string s.name) rfl).set 2 5 (.slice none 0 0) rfl
      clear x2 x3
      generalize (w5.setCell ⟨Y, 1, none⟩ (.string s.name)).setCell ⟨Y, 5, none⟩ (.slice none 0 0) = w6 at *
      have x3 := (S.lv 3 rfl).all
      go_wp2_with fail
      clear x3
      go_loopw [40] (fun i wr => ∃ (j : Nat) (Af : Option Addr) (cf : Nat) (fs : List Fld), j ≤ s.needs.length ∧ i = .int .i64 j ∧ Hid (fs.length ≤ j) ∧ Hid (∀ f ∈ fs, f.tiny) ∧ St b (m + 1102 + 15 * j) w wr [.own rFld w.heap.size 123 (.slice Af fs.length cf) fs, .loc R ezCs 47, .loc Y (evCs ⟨x.id, s.name, x.at', x.kind, x.text, fs⟩ Af cf) 47]) (fun i _ => s.needs.length - (intOf i).toNat)
      case atStart => exact ⟨0, none, 0, [], Nat.zero_le _, rfl, by show _ ≤ _; simp, by show ∀ _ ∈ _, _; simp, ((((S.del 3).del 1).nil rFld w.heap.size 123).front).mono (by omega)⟩
      case round =>
        clear S
        obtain ⟨j, Af, cf, fs, hj, rfl, Hfl, Hft, S⟩ := hrel
        by_cases hlt : j < s.needs.length
        · obtain ⟨n, hn⟩ : ∃ n, s.needs[j]? = some n := ⟨_, List.getElem?_eq_getElem hlt⟩
          have hns := Hnn.out n (List.mem_of_getElem? hn)
          obtain ⟨blk2, off2, rfl, hblk2, d0, d1, d2⟩ := (HNd.out wr S.g.k).nd j n hn
          obtain ⟨nn, nk, mu⟩ := n
          replace d0 : wr.cell? ⟨blk2, off2 + j * 3, none⟩ = some (.string nn) := d0
          replace d1 : wr.cell? ⟨blk2, off2 + j * 3 + 1, none⟩ = some (.int .i64 nk) := d1
          replace d2 : wr.cell? ⟨blk2, off2 + j * 3 + 2, none⟩ = some (.bool mu) := d2
          replace hns : nn.size ≤ 100 := hns
          clear hn
          go_upto_region 9 with fail
          clear d0 d1 d2
          obtain ⟨Z, hZ⟩ : ∃ Z, Z = wr.heap.size := ⟨_, rfl⟩
          replace S : St b (m + 1102 + 15 * j) w (wr.alloc (.cells #[.string nn, .int .i64 nk, .bool mu] 76)) [.own rFld w.heap.size 123 (.slice Af fs.length cf) fs, .loc R ezCs 47, .loc Y (evCs ⟨x.id, s.name, x.at', x.kind, x.text, fs⟩ Af cf) 47, .loc Z #[.string nn, .int .i64 nk, .bool mu] 76] := S.newAt #[.string nn, .int .i64 nk, .bool mu] 76 Z hZ
          rw [← hZ]
          clear hZ
          generalize wr.alloc (.cells #[.string nn, .int .i64 nk, .bool mu] 76) = w7 at *
          have z0 := (S.lv 3 rfl).all
          go_cut [54] (fun s54 wx => ∃ B : Bool, s54 = .bool B ∧ SK b w7 wx ∧ Strm b (m + 1102 + 15 * j + 2) wx)
          case first =>
            cases mu
            · go_wp2_with fail
              refine (flip_any b _ _ _ S.g.s (by omega) (by omega) (by omega)).mono ?_
              rintro e w8 ⟨r8, rfl, hk8, hs8⟩
              go_wp2_with fail
              go_meet
              exact ⟨r8, rfl, hk8, hs8.mono (by omega)⟩
            · go_wp2_with fail
              refine (flip_any b _ _ _ S.g.s (by omega) (by omega) (by omega)).mono ?_
              rintro e w8 ⟨r8, rfl, hk8, hs8⟩
              clear z0
              cases r8
              · go_wp2_with fail
                go_meet
                exact ⟨true, rfl, hk8, hs8.mono (by omega)⟩
              · go_wp2_with fail
                refine (flip_any b _ _ _ hs8 (by omega) (by omega) (by omega)).mono ?_
                rintro e w9 ⟨r9, rfl, hk9, hs9⟩
                go_wp2_with fail
                go_meet
                exact ⟨r9, rfl, hk8.trans hk9, hs9⟩
          case rest =>
            obtain ⟨B, rfl, hkc, hsc⟩ := hcut
            replace S := S.step hkc hsc
            clear hkc hsc z0
            cases B
            · go_wp2_with fail
              go_roundw
              case rel => exact ⟨j + 1, Af, cf, fs, by omega, by go_num, by have := Hfl.out; show _ ≤ _; omega, Hft, (S.del 3).mono (by omega)⟩
              case measure => simp [intOf]; omega
            · go_wp2_with fail
              refine (value_any b _ _ S.g.s (by omega)).mono ?_
              rintro e w8 ⟨vk, vt, vn, hvt, rfl, hk8, hs8⟩
              replace S := S.step hk8 hs8
              clear hk8 hs8
              go_upto_region 11 with fail
              obtain ⟨V, hV⟩ : ∃ V, V = w8.heap.size := ⟨_, rfl⟩
              replace S : St b (m + 1102 + 15 * j + 2 + 6) w (w8.alloc (.cells #[.int .i64 vk, .string vt, .int .i64 vn] 121)) [.own rFld w.heap.size 123 (.slice Af fs.length cf) fs, .loc R ezCs 47, .loc Y (evCs ⟨x.id, s.name, x.at', x.kind, x.text, fs⟩ Af cf) 47, .loc Z #[.string nn, .int .i64 nk, .bool mu] 76, .loc V #[.int .i64 vk, .string vt, .int .i64 vn] 121] := S.newAt #[.int .i64 vk, .string vt, .int .i64 vn] 121 V hV
              rw [← hV]
              clear hV
              generalize w8.alloc (.cells #[.int .i64 vk, .string vt, .int .i64 vn] 121) = w9 at *
              have z0 := (S.lv 3 rfl).all
              have v0 := (S.lv 4 rfl).all
              go_cut [66] (fun s66 wx => ∃ B : Bool, s66 = .bool B ∧ SK b w9 wx ∧ Strm b (m + 1102 + 15 * j + 2 + 6 + 1) wx)
              case first =>
                by_cases hkk : vk = nk
                · have hkb : (vk != nk) = false := by simpa using hkk
                  clear hkk
                  go_wp2_with fail
                  go_meet
                  exact ⟨false, rfl, SK.refl _ _, S.g.s.mono (by omega)⟩
                · have hkb : (vk != nk) = true := by simpa using hkk
                  clear hkk
                  go_wp2_with fail
                  refine (flip_any b _ _ _ S.g.s (by omega) (by omega) (by omega)).mono ?_
                  rintro e w10 ⟨r10, rfl, hk10, hs10⟩
                  go_wp2_with fail
                  go_meet
                  exact ⟨_, rfl, hk10, hs10⟩
              case rest =>
                obtain ⟨B, rfl, hkc, hsc⟩ := hcut
                replace S := S.step hkc hsc
                clear hkc hsc z0 v0
                have HT := Lib.hid S
                clear S
                go_upto_if 66 with fail
                go_cut [13] (fun s13 wx => s13 = .pointer (some ⟨V, 0, none⟩) ∧ ∃ (vk' vn' : Int) (vt' : ByteArray), vt'.size ≤ 1000 ∧ St b (m + 1102 + 15 * j + 10) w wx [.own rFld w.heap.size 123 (.slice Af fs.length cf) fs, .loc R ezCs 47, .loc Y (evCs ⟨x.id, s.name, x.at', x.kind, x.text, fs⟩ Af cf) 47, .loc Z #[.string nn, .int .i64 nk, .bool mu] 76, .loc V #[.int .i64 vk', .string vt', .int .i64 vn'] 121])
                case first =>
                  have S := HT.out
                  clear HT
                  cases B
                  · go_wp2_with fail
                    go_meet
                    exact ⟨rfl, vk, vn, vt, hvt, S.mono (by omega)⟩
                  · have hc1 : wc.cell? ⟨Z, 1, none⟩ = some (.int .i64 nk) := (S.lv 3 rfl).cell 1 _ rfl
                    go_wp2_with fail
                    refine wp_region_mixG 5 (fun wq => wq.cell? ⟨Z, 1, none⟩ = some (.int .i64 nk)) [.q 0, .q 1, .q 2, .e 3, .q 4, .e 5] (by kernel_rfl) (by kernel_rfl) (fun _ hd => ((S.below (hd.below _)).lv 3 rfl).cell 1 _ rfl) (fun KK hKK wd hd => ?_)
                    replace S := S.below (hd.below _)
                    clear hd hc1
                    refine mpG ?_
                    refine mixG_load (.int .i64 nk) rfl rfl rfl rfl (fun _ => rfl) (fun _ h => h) ?_
                    refine mpG ?_
                    refine mixG_l rfl rfl (fun K hK => ?_)
                    go_wp2_with fail
                    refine (next_any b _ _ _ S.g.s (by omega) (by omega) (by omega)).mono ?_
                    rintro e w10 ⟨vn', vn_lo, vn_hi, rfl, hk_w10, hs_w10⟩
                    replace S := S.step hk_w10 hs_w10
                    clear hk_w10 hs_w10
                    have hCc : w10.cell? ⟨Z, 1, none⟩ = some (.int .i64 nk) := (S.lv 3 rfl).cell 1 _ rfl
                    go_wp2_with fail
                    refine ⟨by first | exact hCc | exact fun _ => hCc, ?_⟩
                    clear hCc
                    refine mpG ?_
                    have v0 := (S.lv 4 rfl).all
                    refine mixG_l rfl rfl (fun K hK => ?_)
                    go_wp2_with fail
                    refine ⟨fun h => absurd rfl h, ?_⟩
                    refine mixG_nil ?_
                    simp only [Exit.then]
                    refine hKK _ _ ?_
                    have S2 : St b (m + 1102 + 15 * j + 10) w (((w10.setCell ⟨V, 0, none⟩ (.int .i64 nk)).setCell ⟨V, 1, none⟩ (.string ⟨#[]⟩)).setCell ⟨V, 2, none⟩ (.int .i64 vn')) [.own rFld w.heap.size 123 (.slice Af fs.length cf) fs, .loc R ezCs 47, .loc Y (evCs ⟨x.id, s.name, x.at', x.kind, x.text, fs⟩ Af cf) 47, .loc Z #[.string nn, .int .i64 nk, .bool mu] 76, .loc V #[.int .i64 nk, .string ⟨#[]⟩, .int .i64 vn'] 121] :=
                      (((S.set 4 0 (.int .i64 nk) rfl).set 4 1 (.string ⟨#[]⟩) rfl).set 4 2 (.int .i64 vn') rfl).mono (by omega)
                    clear v0 S
                    generalize ((w10.setCell ⟨V, 0, none⟩ (.int .i64 nk)).setCell ⟨V, 1, none⟩ (.string ⟨#[]⟩)).setCell ⟨V, 2, none⟩ (.int .i64 vn') = w11 at *
                    have S := S2
                    clear S2
                    have z0 := (S.lv 3 rfl).all
                    have v0 := (S.lv 4 rfl).all
                    by_cases h1 : nk = 1
                    · have h1b : (nk == 1) = true := by simpa using h1
                      clear h1
                      go_wp2_with fail
                      go_meet
                      exact ⟨rfl, nk, 0, ⟨#[116]⟩, by decide, ((S.set 4 0 (.int .i64 nk) rfl).set 4 1 (.string ⟨#[116]⟩) rfl).set 4 2 (.int .i64 0) rfl⟩
                    · have h1b : (nk == 1) = false := by simpa using h1
                      clear h1
                      go_wp2_with fail
                      go_meet
                      exact ⟨rfl, nk, vn', ⟨#[]⟩, by decide, S⟩
                case rest =>
                  clear HT
                  obtain ⟨rfl, vk', vn', vt', hvt', S⟩ := hcut
                  have hsz := S.g.size
                  have hlf := Hfl.out
                  have y0 := (S.lv 2 rfl).all
                  have z0 := (S.lv 3 rfl).all
                  have v0 := (S.lv 4 rfl).all
                  go_wp2_with (at_builtin; refine S.app 0 rfl tyFld rfl _ _ rfl ⟨nn, vk', vt', vn'⟩ 1 rfl rfl rfl (oneFld ⟨nn, vk', vt', vn'⟩) hsz (by omega) (by decide) ?_; intro v' w12 S6; obtain ⟨A6, c6, rfl⟩ := (S6.ow 0 rfl).len; have hCb := (S6.lv 2 rfl).cell 5 (.slice Af fs.length cf) rfl; have hCf := (S6.lv 2 rfl).free 5)
                  go_roundw
                  case rel =>
                    have S7 : St b (m + 1102 + 15 * j + 10) w (w12.setCell ⟨Y, 5, none⟩ (.slice A6 (fs ++ [(⟨nn, vk', vt', vn'⟩ : Fld)]).length c6)) [.own rFld w.heap.size 123 (.slice A6 (fs ++ [(⟨nn, vk', vt', vn'⟩ : Fld)]).length c6) (fs ++ [(⟨nn, vk', vt', vn'⟩ : Fld)]), .loc R ezCs 47, .loc Y (evCs ⟨x.id, s.name, x.at', x.kind, x.text, fs ++ [(⟨nn, vk', vt', vn'⟩ : Fld)]⟩ A6 c6) 47, .loc Z #[.string nn, .int .i64 nk, .bool mu] 76, .loc V #[.int .i64 vk', .string vt', .int .i64 vn'] 121] := S6.set 2 5 (.slice A6 (fs ++ [(⟨nn, vk', vt', vn'⟩ : Fld)]).length c6) rfl
                    refine ⟨j + 1, A6, c6, fs ++ [⟨nn, vk', vt', vn'⟩], by omega, by go_num, by show _ ≤ _; simp; omega, tiny_snoc Hft.out ⟨by show nn.size ≤ _; omega, hvt'⟩, ?_⟩
                    first
                      | exact ((S7.del 4).del 3).mono (by omega)
                      | (rw [show fs.length + 1 = (fs ++ [(⟨nn, vk', vt', vn'⟩ : Fld)]).length by simp]; exact ((S7.del 4).del 3).mono (by omega))
                  case measure => simp [intOf]; omega
        · obtain ⟨A9, c9, e9, S9⟩ := S.frz 0 rfl
          cases e9
          clear S
          have S : St b (m + 1102 + 15 * j) w wr [.sl rFld Af fs, .loc R ezCs 47, .loc Y (evCs ⟨x.id, s.name, x.at', x.kind, x.text, fs⟩ Af cf) 47] := S9
          clear S9
          have hlf := Hfl.out
          have y0 := (S.lv 1 rfl).all
          have y2 := (S.lv 2 rfl).all
          have S9 := (((((S.set 1 0 (.string x.id) rfl).set 1 1 (.string s.name) rfl).set 1 2 (.int .i64 x.at') rfl).set 1 3 (.int .i64 x.kind) rfl).set 1 4 (.string x.text) rfl).set 1 5 (.slice Af fs.length cf) rfl
          go_wp2_with fail
          exact bodyPost_ret (results_cell1 rfl rfl (loadEv (S9.lv 1 rfl))) rfl ⟨⟨x.id, s.name, x.at', x.kind, x.text, fs⟩, Af, cf, rfl, ⟨Hx.out.id, (by show s.name.size ≤ 1000; omega), Hx.out.tx, (by show fs.length ≤ 40; omega), Hft.out⟩, ((S9.del 2).del 1).mono (by omega)⟩
    · have y0 := (S.lv 0 rfl).all
      have y2 := (S.lv 2 rfl).all
      have S9 := (((((S.set 0 0 (.string x.id) rfl).set 0 1 (.string x.name) rfl).set 0 2 (.int .i64 x.at') rfl).set 0 3 (.int .i64 x.kind) rfl).set 0 4 (.string x.text) rfl).set 0 5 (.slice Ax x.flds.length cx) rfl
      go_wp2_with fail
      exact bodyPost_ret (results_cell1 rfl rfl (loadEv (S9.lv 0 rfl))) rfl ⟨x, Ax, cx, rfl, Hx.out, ((S9.del 2).del 0).mono (by omega)⟩
end Go.Proofs.YtmlpkejeglpciaaGreatDoor

/- Where a stream goes along, what a call without a stream does to the pieces is as where none does. -/
namespace Go.Proofs.YtmlpkejeglpciaaGreatDoor
open Go Go.RowKit
theorem take_get (a : Array Obj) {n k : Nat} (h : k < n) : (a.take n)[k]? = a[k]? := by
  rw [← Array.getElem?_toList, ← Array.getElem?_toList]
  simp only [Array.take_eq_extract, Array.toList_extract, List.extract_eq_take_drop, Nat.sub_zero, List.drop_zero]
  rw [List.getElem?_take_of_lt h]
theorem St.viaMem {b m : Nat} {w0 w : World} {cs : List Chunk} (S : St b m w0 w cs) : ∃ wb, wb.heap.size = w0.heap.size ∧ Mem wb w cs ∧ ∀ w' cs', Mem wb w' cs' → St b m w0 w' cs' := by
  have hsz := S.g.size
  have hb := S.b0
  refine ⟨{ w with heap := w.heap.take w0.heap.size }, ?_, ⟨⟨rfl, rfl, rfl, ?_, fun k hk => ?_⟩, ?_, ?_, S.sep⟩, fun w' cs' M => ?_⟩
  · show (w.heap.take w0.heap.size).size = _
    simp; omega
  · show (w.heap.take w0.heap.size).size ≤ _
    simp; omega
  · have hk' : k < (w.heap.take w0.heap.size).size := hk
    show w.heap[k]? = (w.heap.take w0.heap.size)[k]?
    simp at hk'
    rw [take_get _ (by omega)]
  · have e : (w.heap.take w0.heap.size).size = w0.heap.size := by simp; omega
    show ∀ c ∈ cs, c.ok (Mut (w.heap.take w0.heap.size).size cs) w
    rw [e]; exact S.ok
  · have e : (w.heap.take w0.heap.size).size = w0.heap.size := by simp; omega
    show ∀ c ∈ cs, ∀ k, c.blk = some k → (w.heap.take w0.heap.size).size ≤ k
    rw [e]; exact S.new
  · have e : (w.heap.take w0.heap.size).size = w0.heap.size := by simp; omega
    have hblk : ∀ k, k < w0.heap.size → w'.heap[k]? = w.heap[k]? := fun k hk => by
      have h1 := M.b.block k (by show k < (w.heap.take w0.heap.size).size; omega)
      rw [h1]
      show (w.heap.take w0.heap.size)[k]? = w.heap[k]?
      rw [take_get _ hk]
    have hsz' : w0.heap.size ≤ w'.heap.size := by
      have := M.b.size
      have h2 : (w.heap.take w0.heap.size).size ≤ w'.heap.size := this
      omega
    refine ⟨⟨⟨M.b.os.trans S.g.k.os, M.b.tape.trans S.g.k.tape, M.b.output.trans S.g.k.output, hsz', fun k hk hn => (hblk k hk).trans (S.g.k.block k hk hn)⟩, S.g.s.lower (fun k hk => hblk k (by omega))⟩, hb, ?_, ?_, M.sep⟩
    · have := M.ok
      rw [show World.heap { w with heap := w.heap.take w0.heap.size } = w.heap.take w0.heap.size from rfl, e] at this
      exact this
    · have := M.new
      rw [show World.heap { w with heap := w.heap.take w0.heap.size } = w.heap.take w0.heap.size from rfl, e] at this
      exact this
end Go.Proofs.YtmlpkejeglpciaaGreatDoor
