/- Several texts in one: LogFill. -/
import Derived.Test.YtmlpkejeglpciaaGreatDoorPkAU
import Derived.Test.YtmlpkejeglpciaaGreatDoorPkAV
import Derived.Test.YtmlpkejeglpciaaGreatDoorPkAM
/- handlaw2.fill: the same calls of a log and of its reference, which say the same. -/
namespace Go.Proofs.YtmlpkejeglpciaaGreatDoor
open Go Go.RowKit
abbrev lgsP (X : Nat) (K : Option Addr) (n ck : Nat) (v : Value) (B : Nat) (qs : List EQ) (AT : Nat) (La : List (ByteArray × Value)) (GN : Nat) (Lg : List (ByteArray × Value)) (Y : Nat) (K2 : Option Addr) (ck2 : Nat) (v2 : Value) (B2 : Nat) (ps fs : List EQ) (g2 : Value) (B3 : Nat) (gn : List ByteArray) (ch : List Chunk) : List Chunk :=
  logP X K n ck v B qs AT La GN (.mapG keyStr GN Lg :: rlgP Y K2 n ck2 v2 B2 ps fs g2 B3 gn ch)
theorem perm_ref (a1 a2 a3 a4 a5 b1 b2 b3 b4 : Chunk) (T : List Chunk) : (a1 :: a2 :: a3 :: a4 :: a5 :: b1 :: b2 :: b3 :: b4 :: T).Perm (b1 :: b2 :: b3 :: b4 :: a1 :: a2 :: a3 :: a4 :: a5 :: T) := List.perm_append_comm_assoc [a1, a2, a3, a4, a5] [b1, b2, b3, b4] T
theorem perm_in (a1 a2 a3 a4 a5 b1 b2 b3 b4 c : Chunk) (T : List Chunk) : (c :: a1 :: a2 :: a3 :: a4 :: a5 :: b1 :: b2 :: b3 :: b4 :: T).Perm (a1 :: a2 :: a3 :: a4 :: a5 :: b1 :: b2 :: b3 :: b4 :: c :: T) := (List.perm_middle (l₁ := [a1, a2, a3, a4, a5, b1, b2, b3, b4])).symm
theorem perm_in2 (a1 a2 a3 a4 a5 b1 b2 b3 b4 c d : Chunk) (T : List Chunk) : (c :: d :: a1 :: a2 :: a3 :: a4 :: a5 :: b1 :: b2 :: b3 :: b4 :: T).Perm (a1 :: a2 :: a3 :: a4 :: a5 :: b1 :: b2 :: b3 :: b4 :: c :: d :: T) := List.perm_append_comm_assoc [c, d] [a1, a2, a3, a4, a5, b1, b2, b3, b4] T
theorem MapG.nodup {κ : Type} {K : KeyL κ} {w : World} {X : Nat} {L : List (κ × Value)} (h : MapG K w X L) : (L.map Prod.fst).Nodup := by
  obtain ⟨es, cl, hb, he⟩ := h
  exact he.nd
def SubOk (ps fs : List EQ) : Prop := (∀ p ∈ ps, p ∈ fs) ∧ ∀ p ∈ fs, EvSm p.e
theorem ix6 (i : Nat) (h : i < 6) : ∃ s : ByteArray, s.size ≤ 2 ∧ (#[.string ⟨#[101, 97]⟩, .string ⟨#[101, 98]⟩, .string ⟨#[101, 99]⟩, .string ⟨#[101, 100]⟩, .string ⟨#[101, 101]⟩, .string ⟨#[101, 102]⟩] : Array Value)[i]? = some (.string s) := by
  obtain rfl | rfl | rfl | rfl | rfl | rfl : i = 0 ∨ i = 1 ∨ i = 2 ∨ i = 3 ∨ i = 4 ∨ i = 5 := by omega
  · exact ⟨_, by decide, rfl⟩
  · exact ⟨_, by decide, rfl⟩
  · exact ⟨_, by decide, rfl⟩
  · exact ⟨_, by decide, rfl⟩
  · exact ⟨_, by decide, rfl⟩
  · exact ⟨_, by decide, rfl⟩
def GivesFill (b m n : Nat) (w1 : World) (X : Nat) (l : List Scm) (K : Option Addr) (ck B AT GN Y : Nat) (K2 : Option Addr) (ck2 B2 B3 : Nat) (ch : List Chunk) (e : Ending) (w' : World) : Prop :=
  ∃ (v : Value) (qs : List EQ) (La Lg : List (ByteArray × Value)) (v2 : Value) (ps fs : List EQ) (g2 : Value) (gn : List ByteArray), e = .returned (.bool true) ∧ LogOk qs ps La Lg gn ∧ SubOk ps fs ∧ ps.length ≤ n ∧ gn.length ≤ n ∧
    St b (m + 1500 * n) w1 w' (lgsP X K l.length ck v B qs AT La GN Lg Y K2 ck2 v2 B2 ps fs g2 B3 gn ch)
set_option maxHeartbeats 16000000 in
set_option maxRecDepth 100000 in
theorem fill_any (b m n : Nat) (w1 w : World) (ch : List Chunk) (X : Nat) (l : List Scm) (K : Option Addr) (ck B AT GN Y : Nat) (K2 : Option Addr) (ck2 B2 B3 i1 i2 : Nat)
    (S : St b m w1 w (lgsP X K l.length ck (.slice none 0 0) B [] AT [] GN [] Y K2 ck2 (.slice none 0 0) B2 [] [] (.slice none 0 0) B3 [] ch))
    (h1 : ch[i1]? = some (.sl rScm K l)) (h2 : ch[i2]? = some (.sl rScm K2 l)) (hsm : ScmSm l) (hfz : scmsFault l = 0) (hBX : B ≤ X) (hBY : B2 ≤ Y) (hB3 : B3 ≤ Y) (hn : n ≤ 20) (hm : m ≤ 1000000)
    (HTW : Hid (∀ m' w', G b m' w1 w' → Tabs w' ∧ MaxL w'))
    (HEF : Hid (∀ m' wx (id : ByteArray) (at' : Int), G b m' w1 wx → m' ≤ 5000000 → id.size ≤ 1000 → Sl rScm (Off b) wx K2 l → Calls Tryz.prog 48 #[.pointer (some ⟨b, 0, none⟩), .slice K2 l.length ck2, .string id, .int .i64 at'] wx (DrawsEvt b (m' + 1400) wx))) :
    Calls Tryz.prog 11 #[.pointer (some ⟨b, 0, none⟩), .pointer (some ⟨X, 0, none⟩), .pointer (some ⟨Y, 0, none⟩), .int .i64 n] w (GivesFill b m n w1 X l K ck B AT GN Y K2 ck2 B2 B3 ch) := by
  have Hok0 : Hid (LogOk [] [] [] [] []) := LogOk.start
  have Hsub0 : Hid (SubOk [] []) := ⟨fun _ h => (by cases h), fun _ h => (by cases h)⟩
  have Hbd0 : Hid (([] : List EQ).length ≤ 0 ∧ ([] : List ByteArray).length ≤ 0) := ⟨Nat.le_refl _, Nat.le_refl _⟩
  go_enter Tryz.func11, Tryz.ntmps11
  go_wp2_with fail
  go_loopw [21] (fun i wr => ∃ (k : Nat) (v : Value) (qs : List EQ) (La Lg : List (ByteArray × Value)) (v2 : Value) (ps fs : List EQ) (g2 : Value) (gn : List ByteArray), k ≤ n ∧ i = .int .i64 k ∧ Hid (LogOk qs ps La Lg gn) ∧ Hid (SubOk ps fs) ∧ Hid (ps.length ≤ k ∧ gn.length ≤ k) ∧ St b (m + 1500 * k) w1 wr (lgsP X K l.length ck v B qs AT La GN Lg Y K2 ck2 v2 B2 ps fs g2 B3 gn ch)) (fun i _ => n - (intOf i).toNat)
  case atStart => exact ⟨0, _, [], [], [], _, [], [], _, [], Nat.zero_le _, rfl, Hok0, Hsub0, Hbd0, S⟩
  case round =>
    clear S Hok0 Hsub0 Hbd0
    obtain ⟨k, v, qs, La, Lg, v2, ps, fs, g2, gn, hk, rfl, Hok, Hsub, Hbd, S⟩ := hrel
    by_cases hlt : k < n
    · obtain ⟨L, hL⟩ : ∃ L, L = wr.heap.size := ⟨_, rfl⟩
      replace S := (S.newAt #[.string ⟨#[101, 97]⟩, .string ⟨#[101, 98]⟩, .string ⟨#[101, 99]⟩, .string ⟨#[101, 100]⟩, .string ⟨#[101, 101]⟩, .string ⟨#[101, 102]⟩] 9 L hL).front
      go_wp2_with fail
      rw [← hL]
      clear hL
      generalize World.alloc _ _ = w3 at S ⊢
      refine (next_any b _ 6 _ S.g.s (by omega) (by omega) (by omega)).mono ?_
      rintro e w4 ⟨i, i_lo, i_hi, rfl, hk4, hs4⟩
      obtain ⟨i, rfl⟩ := Int.eq_ofNat_of_zero_le i_lo
      obtain ⟨id, hid, hix⟩ := ix6 i (by omega)
      replace S := S.step hk4 hs4
      have c0 := (S.lv 0 rfl).cell i _ hix
      have Hid0 := Lib.hid hid
      obtain ⟨V, hV⟩ : ∃ V, V = w4.heap.size := ⟨_, rfl⟩
      replace S := ((S.del 0).newAt #[.string id] 9 V hV).front
      replace S : St b (m + 1500 * k + 1) w1 _ (lgsP X K l.length ck v B qs AT La GN Lg Y K2 ck2 v2 B2 ps fs g2 B3 gn (.loc V #[.string id] 9 :: ch)) := S.perm (perm_in _ _ _ _ _ _ _ _ _ _ _)
      clear hk4 hs4 hid hix
      go_upto_region 4 with fail
      rw [← hV]
      clear hV c0
      generalize World.alloc _ _ = w5 at S ⊢
      go_wp2_with fail
      refine (flip_any b _ 4 _ S.g.s (by omega) (by omega) (by omega)).mono ?_
      rintro e w6 ⟨bo, rfl, hk6, hs6⟩
      replace S := S.step hk6 hs6
      clear hk6 hs6
      cases bo
      · go_upto_region 11 with fail
        go_cut [14] (fun s14 wx => ∃ (U : Nat) (x : Evt) (A : Option Addr) (c : Nat), s14 = .pointer (some ⟨U, 0, none⟩) ∧ Hid (EvSm x) ∧ St b (m + 1500 * k + 1440) w1 wx (lgsP X K l.length ck v B qs AT La GN Lg Y K2 ck2 v2 B2 ps fs g2 B3 gn (.loc U (evCs x A c) 47 :: .sl rFld A x.flds :: .loc V #[.string id] 9 :: ch)))
        case first =>
          refine wp_region_mixT [11] (fun wx => LV wx Y (rlgCs K2 l.length ck2 v2 g2) 39 ∧ LV wx V #[.string id] 9) (.p 0 (.p 1 (.p 2 (.p 3 (.q 4 (.q 5 (.p 6 (.e2 7 (.e2 8 (.e2 9 (.e 10 (.b 11 .z)) 10 (.e 9 (.b 11 .z))) 10 (.e 8 (.e 9 (.b 11 .z)))) 10 (.e 7 (.e 8 (.e 9 (.b 11 .z)))))))))))) (by kernel_rfl) (by kernel_rfl) (fun _ hd => ⟨(S.below (hd.below _)).lv 5 rfl, (S.below (hd.below _)).lv 9 rfl⟩) (fun KK hKK wd hd => ?_)
          replace S := S.below (hd.below _)
          clear hd
          refine mpT ?_
          refine mixT_loadR (.slice K2 l.length ck2) rfl rfl rfl rfl (fun w' h => loadC1 rfl (h.1.cell 0 _ rfl)) ?_
          refine mixT_loadR (.string id) rfl rfl rfl rfl (fun w' h => loadC1 rfl (h.2.cell 0 _ rfl)) ?_
          refine mpT ?_
          refine mixT_2 (mixT_one rfl rfl (fun K9 hK9 => ?_)) (mixT_one rfl rfl (fun K9 hK9 => ?_))
          · obtain ⟨L, hL⟩ : ∃ L, L = (wd).heap.size := ⟨_, rfl⟩
            replace S := (S.newAt #[.int .i64 1, .int .i64 1, .int .i64 5, .int .i64 9] 3 L hL).front
            go_wp2_with fail
            rw [← hL]
            clear hL
            generalize World.alloc _ _ = wx1 at S ⊢
            refine ⟨⟨by first | exact S.lv 5 rfl | exact S.lv 6 rfl | exact S.lv 7 rfl | exact S.lv 8 rfl, by first | exact S.lv 9 rfl | exact S.lv 10 rfl | exact S.lv 11 rfl | exact S.lv 12 rfl⟩, ?_⟩
            refine mixT_2 (mixT_one rfl rfl (fun K9 hK9 => ?_)) (mixT_one rfl rfl (fun K9 hK9 => ?_))
            · have hLv : LV wx1 L #[.int .i64 1, .int .i64 1, .int .i64 5, .int .i64 9] 3 := by first | exact S.lv 0 rfl | exact S.lv 1 rfl
              have hLb : L ≠ b := by
                have h9 : w1.heap.size ≤ L ∧ L < (wx1).heap.size := by first | exact S.ge 0 rfl | exact S.ge 1 rfl
                have := S.b0
                omega
              go_wp2_with fail
              refine (pick_any b _ L 0 4 [1, 1, 5, 9] wx1 S.g.s (by decide) (by decide) (by omega) hLv.lt hLb (fun j hj => by
                obtain rfl | rfl | rfl | rfl : j = 0 ∨ j = 1 ∨ j = 2 ∨ j = 3 := by simp only [List.length_cons, List.length_nil] at hj; omega
                · exact hLv.cell 0 _ rfl
                · exact hLv.cell 1 _ rfl
                · exact hLv.cell 2 _ rfl
                · exact hLv.cell 3 _ rfl)).mono ?_
              rintro e wx2 ⟨at9, h9, rfl, hk9, hs9⟩
              replace S := S.step hk9 hs9
              clear hLv hLb h9 hk9 hs9
              go_wp2_with fail
              refine ⟨⟨by first | exact S.lv 5 rfl | exact S.lv 6 rfl | exact S.lv 7 rfl | exact S.lv 8 rfl, by first | exact S.lv 9 rfl | exact S.lv 10 rfl | exact S.lv 11 rfl | exact S.lv 12 rfl⟩, ?_⟩
              refine mixT_2 (mixT_one rfl rfl (fun K9 hK9 => ?_)) (mixT_one rfl rfl (fun K9 hK9 => ?_))
              · have hS9 : Sl rScm (Off b) wx2 K2 l := by
                  first
                    | exact (S.slc (i2 + 10) h2).mono (fun k _ e => by have : k = b := e; subst this; exact .inl S.b0)
                    | exact (S.slc (i2 + 11) h2).mono (fun k _ e => by have : k = b := e; subst this; exact .inl S.b0)
                    | exact (S.slc (i2 + 12) h2).mono (fun k _ e => by have : k = b := e; subst this; exact .inl S.b0)
                    | exact (S.slc (i2 + 13) h2).mono (fun k _ e => by have : k = b := e; subst this; exact .inl S.b0)
                go_wp2_with fail
                refine (HEF.out _ wx2 id at9 S.g (by omega) (Nat.le_trans Hid0.out (by decide)) hS9).mono ?_
                rintro e wx3 ⟨x, A, c, rfl, hx, T9⟩
                have Hx := Lib.hid hx
                replace S := (S.join T9).front
                clear T9 hx hS9
                go_wp2_with fail
                refine ⟨⟨by first | exact S.lv 5 rfl | exact S.lv 6 rfl | exact S.lv 7 rfl | exact S.lv 8 rfl, by first | exact S.lv 9 rfl | exact S.lv 10 rfl | exact S.lv 11 rfl | exact S.lv 12 rfl⟩, ?_⟩
                refine mixT_l rfl rfl (fun K9 hK9 => ?_)
                obtain ⟨U, hU⟩ : ∃ U, U = (wx3).heap.size := ⟨_, rfl⟩
                replace S := (S.newAt ezCs 47 U hU).front
                go_wp2_with fail
                rw [← hU]
                clear hU
                generalize World.alloc _ _ = wx4 at S ⊢
                refine ⟨⟨by first | exact S.lv 5 rfl | exact S.lv 6 rfl | exact S.lv 7 rfl | exact S.lv 8 rfl, by first | exact S.lv 9 rfl | exact S.lv 10 rfl | exact S.lv 11 rfl | exact S.lv 12 rfl⟩, ?_⟩
                refine mixT_b rfl rfl (fun K9 hK9 => ?_)
                have S7 : St b (m + 1500 * k + 1440) w1 wx4 (.loc U ezCs 47 :: .sl rFld A x.flds :: .loc L #[.int .i64 1, .int .i64 1, .int .i64 5, .int .i64 9] 3 :: lgsP X K l.length ck v B qs AT La GN Lg Y K2 ck2 v2 B2 ps fs g2 B3 gn (.loc V #[.string id] 9 :: ch)) := by
                  first
                    | exact S.mono (by omega)
                    | exact (S.mono (by omega)).perm (List.Perm.swap _ _ _)
                    | exact (S.mono (by omega)).perm (List.perm_middle (l₁ := [_, _]))
                have S8 := ((((((S7.del 2).set 0 0 (.string x.id) rfl).set 0 1 (.string x.name) rfl).set 0 2 (.int .i64 x.at') rfl).set 0 3 (.int .i64 x.kind) rfl).set 0 4 (.string x.text) rfl).set 0 5 (.slice A x.flds.length c) rfl
                have S9 : St b (m + 1500 * k + 1440) w1 _ (.loc U (evCs x A c) 47 :: .sl rFld A x.flds :: lgsP X K l.length ck v B qs AT La GN Lg Y K2 ck2 v2 B2 ps fs g2 B3 gn (.loc V #[.string id] 9 :: ch)) := S8
                have HS9 := Lib.hid (S9.perm (perm_in2 _ _ _ _ _ _ _ _ _ _ _ _))
                have u0 := (S7.lv 0 rfl).all
                clear S S7 S8 S9
                go_wp2_with fail
                refine ⟨trivial, ?_⟩
                refine mixT_nil ?_
                simp only [Exit.then]
                refine hKK _ _ ?_
                clear hKK KK u0
                go_wp2_with fail
                go_meet
                exact ⟨U, x, A, c, rfl, Hx, HS9.out.mono (by omega)⟩
              · obtain ⟨U, hU⟩ : ∃ U, U = (wx2).heap.size := ⟨_, rfl⟩
                replace S := (S.newAt ezCs 47 U hU).front
                go_wp2_with fail
                rw [← hU]
                clear hU
                generalize World.alloc _ _ = wx3 at S ⊢
                refine ⟨⟨by first | exact S.lv 5 rfl | exact S.lv 6 rfl | exact S.lv 7 rfl | exact S.lv 8 rfl, by first | exact S.lv 9 rfl | exact S.lv 10 rfl | exact S.lv 11 rfl | exact S.lv 12 rfl⟩, ?_⟩
                refine mixT_l rfl rfl (fun K9 hK9 => ?_)
                have hS9 : Sl rScm (Off b) wx3 K2 l := by
                  first
                    | exact (S.slc (i2 + 10) h2).mono (fun k _ e => by have : k = b := e; subst this; exact .inl S.b0)
                    | exact (S.slc (i2 + 11) h2).mono (fun k _ e => by have : k = b := e; subst this; exact .inl S.b0)
                    | exact (S.slc (i2 + 12) h2).mono (fun k _ e => by have : k = b := e; subst this; exact .inl S.b0)
                    | exact (S.slc (i2 + 13) h2).mono (fun k _ e => by have : k = b := e; subst this; exact .inl S.b0)
                go_wp2_with fail
                refine (HEF.out _ wx3 id at9 S.g (by omega) (Nat.le_trans Hid0.out (by decide)) hS9).mono ?_
                rintro e wx4 ⟨x, A, c, rfl, hx, T9⟩
                have Hx := Lib.hid hx
                replace S := (S.join T9).front
                clear T9 hx hS9
                go_wp2_with fail
                refine ⟨⟨by first | exact S.lv 5 rfl | exact S.lv 6 rfl | exact S.lv 7 rfl | exact S.lv 8 rfl, by first | exact S.lv 9 rfl | exact S.lv 10 rfl | exact S.lv 11 rfl | exact S.lv 12 rfl⟩, ?_⟩
                refine mixT_b rfl rfl (fun K9 hK9 => ?_)
                have S7 : St b (m + 1500 * k + 1440) w1 wx4 (.loc U ezCs 47 :: .sl rFld A x.flds :: .loc L #[.int .i64 1, .int .i64 1, .int .i64 5, .int .i64 9] 3 :: lgsP X K l.length ck v B qs AT La GN Lg Y K2 ck2 v2 B2 ps fs g2 B3 gn (.loc V #[.string id] 9 :: ch)) := by
                  first
                    | exact S.mono (by omega)
                    | exact (S.mono (by omega)).perm (List.Perm.swap _ _ _)
                    | exact (S.mono (by omega)).perm (List.perm_middle (l₁ := [_, _]))
                have S8 := ((((((S7.del 2).set 0 0 (.string x.id) rfl).set 0 1 (.string x.name) rfl).set 0 2 (.int .i64 x.at') rfl).set 0 3 (.int .i64 x.kind) rfl).set 0 4 (.string x.text) rfl).set 0 5 (.slice A x.flds.length c) rfl
                have S9 : St b (m + 1500 * k + 1440) w1 _ (.loc U (evCs x A c) 47 :: .sl rFld A x.flds :: lgsP X K l.length ck v B qs AT La GN Lg Y K2 ck2 v2 B2 ps fs g2 B3 gn (.loc V #[.string id] 9 :: ch)) := S8
                have HS9 := Lib.hid (S9.perm (perm_in2 _ _ _ _ _ _ _ _ _ _ _ _))
                have u0 := (S7.lv 0 rfl).all
                clear S S7 S8 S9
                go_wp2_with fail
                refine ⟨trivial, ?_⟩
                refine mixT_nil ?_
                simp only [Exit.then]
                refine hKK _ _ ?_
                clear hKK KK u0
                go_wp2_with fail
                go_meet
                exact ⟨U, x, A, c, rfl, Hx, HS9.out.mono (by omega)⟩
            · obtain ⟨U, hU⟩ : ∃ U, U = (wx1).heap.size := ⟨_, rfl⟩
              replace S := (S.newAt ezCs 47 U hU).front
              go_wp2_with fail
              rw [← hU]
              clear hU
              generalize World.alloc _ _ = wx2 at S ⊢
              refine ⟨⟨by first | exact S.lv 5 rfl | exact S.lv 6 rfl | exact S.lv 7 rfl | exact S.lv 8 rfl, by first | exact S.lv 9 rfl | exact S.lv 10 rfl | exact S.lv 11 rfl | exact S.lv 12 rfl⟩, ?_⟩
              refine mixT_l rfl rfl (fun K9 hK9 => ?_)
              have hLv : LV wx2 L #[.int .i64 1, .int .i64 1, .int .i64 5, .int .i64 9] 3 := by first | exact S.lv 0 rfl | exact S.lv 1 rfl
              have hLb : L ≠ b := by
                have h9 : w1.heap.size ≤ L ∧ L < (wx2).heap.size := by first | exact S.ge 0 rfl | exact S.ge 1 rfl
                have := S.b0
                omega
              go_wp2_with fail
              refine (pick_any b _ L 0 4 [1, 1, 5, 9] wx2 S.g.s (by decide) (by decide) (by omega) hLv.lt hLb (fun j hj => by
                obtain rfl | rfl | rfl | rfl : j = 0 ∨ j = 1 ∨ j = 2 ∨ j = 3 := by simp only [List.length_cons, List.length_nil] at hj; omega
                · exact hLv.cell 0 _ rfl
                · exact hLv.cell 1 _ rfl
                · exact hLv.cell 2 _ rfl
                · exact hLv.cell 3 _ rfl)).mono ?_
              rintro e wx3 ⟨at9, h9, rfl, hk9, hs9⟩
              replace S := S.step hk9 hs9
              clear hLv hLb h9 hk9 hs9
              go_wp2_with fail
              refine ⟨⟨by first | exact S.lv 5 rfl | exact S.lv 6 rfl | exact S.lv 7 rfl | exact S.lv 8 rfl, by first | exact S.lv 9 rfl | exact S.lv 10 rfl | exact S.lv 11 rfl | exact S.lv 12 rfl⟩, ?_⟩
              refine mixT_l rfl rfl (fun K9 hK9 => ?_)
              have hS9 : Sl rScm (Off b) wx3 K2 l := by
                first
                  | exact (S.slc (i2 + 10) h2).mono (fun k _ e => by have : k = b := e; subst this; exact .inl S.b0)
                  | exact (S.slc (i2 + 11) h2).mono (fun k _ e => by have : k = b := e; subst this; exact .inl S.b0)
                  | exact (S.slc (i2 + 12) h2).mono (fun k _ e => by have : k = b := e; subst this; exact .inl S.b0)
                  | exact (S.slc (i2 + 13) h2).mono (fun k _ e => by have : k = b := e; subst this; exact .inl S.b0)
              go_wp2_with fail
              refine (HEF.out _ wx3 id at9 S.g (by omega) (Nat.le_trans Hid0.out (by decide)) hS9).mono ?_
              rintro e wx4 ⟨x, A, c, rfl, hx, T9⟩
              have Hx := Lib.hid hx
              replace S := (S.join T9).front
              clear T9 hx hS9
              go_wp2_with fail
              refine ⟨⟨by first | exact S.lv 5 rfl | exact S.lv 6 rfl | exact S.lv 7 rfl | exact S.lv 8 rfl, by first | exact S.lv 9 rfl | exact S.lv 10 rfl | exact S.lv 11 rfl | exact S.lv 12 rfl⟩, ?_⟩
              refine mixT_b rfl rfl (fun K9 hK9 => ?_)
              have S7 : St b (m + 1500 * k + 1440) w1 wx4 (.loc U ezCs 47 :: .sl rFld A x.flds :: .loc L #[.int .i64 1, .int .i64 1, .int .i64 5, .int .i64 9] 3 :: lgsP X K l.length ck v B qs AT La GN Lg Y K2 ck2 v2 B2 ps fs g2 B3 gn (.loc V #[.string id] 9 :: ch)) := by
                first
                  | exact S.mono (by omega)
                  | exact (S.mono (by omega)).perm (List.Perm.swap _ _ _)
                  | exact (S.mono (by omega)).perm (List.perm_middle (l₁ := [_, _]))
              have S8 := ((((((S7.del 2).set 0 0 (.string x.id) rfl).set 0 1 (.string x.name) rfl).set 0 2 (.int .i64 x.at') rfl).set 0 3 (.int .i64 x.kind) rfl).set 0 4 (.string x.text) rfl).set 0 5 (.slice A x.flds.length c) rfl
              have S9 : St b (m + 1500 * k + 1440) w1 _ (.loc U (evCs x A c) 47 :: .sl rFld A x.flds :: lgsP X K l.length ck v B qs AT La GN Lg Y K2 ck2 v2 B2 ps fs g2 B3 gn (.loc V #[.string id] 9 :: ch)) := S8
              have HS9 := Lib.hid (S9.perm (perm_in2 _ _ _ _ _ _ _ _ _ _ _ _))
              have u0 := (S7.lv 0 rfl).all
              clear S S7 S8 S9
              go_wp2_with fail
              refine ⟨trivial, ?_⟩
              refine mixT_nil ?_
              simp only [Exit.then]
              refine hKK _ _ ?_
              clear hKK KK u0
              go_wp2_with fail
              go_meet
              exact ⟨U, x, A, c, rfl, Hx, HS9.out.mono (by omega)⟩
          · obtain ⟨U, hU⟩ : ∃ U, U = (wd).heap.size := ⟨_, rfl⟩
            replace S := (S.newAt ezCs 47 U hU).front
            go_wp2_with fail
            rw [← hU]
            clear hU
            generalize World.alloc _ _ = wx1 at S ⊢
            refine ⟨⟨by first | exact S.lv 5 rfl | exact S.lv 6 rfl | exact S.lv 7 rfl | exact S.lv 8 rfl, by first | exact S.lv 9 rfl | exact S.lv 10 rfl | exact S.lv 11 rfl | exact S.lv 12 rfl⟩, ?_⟩
            refine mixT_l rfl rfl (fun K9 hK9 => ?_)
            obtain ⟨L, hL⟩ : ∃ L, L = (wx1).heap.size := ⟨_, rfl⟩
            replace S := (S.newAt #[.int .i64 1, .int .i64 1, .int .i64 5, .int .i64 9] 3 L hL).front
            go_wp2_with fail
            rw [← hL]
            clear hL
            generalize World.alloc _ _ = wx2 at S ⊢
            refine ⟨⟨by first | exact S.lv 5 rfl | exact S.lv 6 rfl | exact S.lv 7 rfl | exact S.lv 8 rfl, by first | exact S.lv 9 rfl | exact S.lv 10 rfl | exact S.lv 11 rfl | exact S.lv 12 rfl⟩, ?_⟩
            refine mixT_l rfl rfl (fun K9 hK9 => ?_)
            have hLv : LV wx2 L #[.int .i64 1, .int .i64 1, .int .i64 5, .int .i64 9] 3 := by first | exact S.lv 0 rfl | exact S.lv 1 rfl
            have hLb : L ≠ b := by
              have h9 : w1.heap.size ≤ L ∧ L < (wx2).heap.size := by first | exact S.ge 0 rfl | exact S.ge 1 rfl
              have := S.b0
              omega
            go_wp2_with fail
            refine (pick_any b _ L 0 4 [1, 1, 5, 9] wx2 S.g.s (by decide) (by decide) (by omega) hLv.lt hLb (fun j hj => by
              obtain rfl | rfl | rfl | rfl : j = 0 ∨ j = 1 ∨ j = 2 ∨ j = 3 := by simp only [List.length_cons, List.length_nil] at hj; omega
              · exact hLv.cell 0 _ rfl
              · exact hLv.cell 1 _ rfl
              · exact hLv.cell 2 _ rfl
              · exact hLv.cell 3 _ rfl)).mono ?_
            rintro e wx3 ⟨at9, h9, rfl, hk9, hs9⟩
            replace S := S.step hk9 hs9
            clear hLv hLb h9 hk9 hs9
            go_wp2_with fail
            refine ⟨⟨by first | exact S.lv 5 rfl | exact S.lv 6 rfl | exact S.lv 7 rfl | exact S.lv 8 rfl, by first | exact S.lv 9 rfl | exact S.lv 10 rfl | exact S.lv 11 rfl | exact S.lv 12 rfl⟩, ?_⟩
            refine mixT_l rfl rfl (fun K9 hK9 => ?_)
            have hS9 : Sl rScm (Off b) wx3 K2 l := by
              first
                | exact (S.slc (i2 + 10) h2).mono (fun k _ e => by have : k = b := e; subst this; exact .inl S.b0)
                | exact (S.slc (i2 + 11) h2).mono (fun k _ e => by have : k = b := e; subst this; exact .inl S.b0)
                | exact (S.slc (i2 + 12) h2).mono (fun k _ e => by have : k = b := e; subst this; exact .inl S.b0)
                | exact (S.slc (i2 + 13) h2).mono (fun k _ e => by have : k = b := e; subst this; exact .inl S.b0)
            go_wp2_with fail
            refine (HEF.out _ wx3 id at9 S.g (by omega) (Nat.le_trans Hid0.out (by decide)) hS9).mono ?_
            rintro e wx4 ⟨x, A, c, rfl, hx, T9⟩
            have Hx := Lib.hid hx
            replace S := (S.join T9).front
            clear T9 hx hS9
            go_wp2_with fail
            refine ⟨⟨by first | exact S.lv 5 rfl | exact S.lv 6 rfl | exact S.lv 7 rfl | exact S.lv 8 rfl, by first | exact S.lv 9 rfl | exact S.lv 10 rfl | exact S.lv 11 rfl | exact S.lv 12 rfl⟩, ?_⟩
            refine mixT_b rfl rfl (fun K9 hK9 => ?_)
            have S7 : St b (m + 1500 * k + 1440) w1 wx4 (.loc U ezCs 47 :: .sl rFld A x.flds :: .loc L #[.int .i64 1, .int .i64 1, .int .i64 5, .int .i64 9] 3 :: lgsP X K l.length ck v B qs AT La GN Lg Y K2 ck2 v2 B2 ps fs g2 B3 gn (.loc V #[.string id] 9 :: ch)) := by
              first
                | exact S.mono (by omega)
                | exact (S.mono (by omega)).perm (List.Perm.swap _ _ _)
                | exact (S.mono (by omega)).perm (List.perm_middle (l₁ := [_, _]))
            have S8 := ((((((S7.del 2).set 0 0 (.string x.id) rfl).set 0 1 (.string x.name) rfl).set 0 2 (.int .i64 x.at') rfl).set 0 3 (.int .i64 x.kind) rfl).set 0 4 (.string x.text) rfl).set 0 5 (.slice A x.flds.length c) rfl
            have S9 : St b (m + 1500 * k + 1440) w1 _ (.loc U (evCs x A c) 47 :: .sl rFld A x.flds :: lgsP X K l.length ck v B qs AT La GN Lg Y K2 ck2 v2 B2 ps fs g2 B3 gn (.loc V #[.string id] 9 :: ch)) := S8
            have HS9 := Lib.hid (S9.perm (perm_in2 _ _ _ _ _ _ _ _ _ _ _ _))
            have u0 := (S7.lv 0 rfl).all
            clear S S7 S8 S9
            go_wp2_with fail
            refine ⟨trivial, ?_⟩
            refine mixT_nil ?_
            simp only [Exit.then]
            refine hKK _ _ ?_
            clear hKK KK u0
            go_wp2_with fail
            go_meet
            exact ⟨U, x, A, c, rfl, Hx, HS9.out.mono (by omega)⟩
        case rest =>
          clear S
          obtain ⟨U, x, A, c, rfl, Hx, S⟩ := hcut
          obtain ⟨fs9, hfs9⟩ : ∃ fs9, fs ++ [(⟨x, A, c⟩ : EQ)] = fs9 := ⟨_, rfl⟩
          replace S := (S.addFl 7 10 rfl rfl (⟨x, A, c⟩ : EQ) rfl rfl).del 10
          rw [hfs9] at S
          replace S : St b (m + 1500 * k + 1440) w1 wc (lgsP X K l.length ck v B qs AT La GN Lg Y K2 ck2 v2 B2 ps fs9 g2 B3 gn (.loc U (evCs x A c) 47 :: .loc V #[.string id] 9 :: ch)) := S
          have Hnew : Hid ((⟨x, A, c⟩ : EQ) ∈ fs9) := by show _ ∈ _; rw [← hfs9]; simp
          replace Hsub : Hid (SubOk ps fs9) := ⟨fun p hp => by rw [← hfs9]; exact List.mem_append_left _ (Hsub.out.1 p hp), fun p hp => by
            rw [← hfs9] at hp
            rcases List.mem_append.1 hp with h | h
            · exact Hsub.out.2 p h
            · rw [List.mem_singleton.1 h]; exact Hx.out⟩
          clear hfs9 Hx
          obtain ⟨A0, c0, e0⟩ := (S.ow 6 rfl).len
          subst e0
          have Hix := Lib.hid (idxFE_any 50 #[.pointer (some ⟨V, 0, none⟩)] (enters_of Tryz.func50 (by kernel_rfl) rfl) (idIs id) (fun _ => False) A0 c0 ps wc ((S.ow 6 rfl).slF flatEQ) (by have := Hbd.out; omega) (fun y _ w' h => plcF_any y id V w' (LV.kb3 (S.lv 10 rfl) h (S.lv 10 rfl).lt)))
          have y0 := (S.lv 5 rfl).all
          go_wp2_with fail
          refine (Hix.out).mono ?_
          rintro e w9 ⟨i, rfl, hb9, hi⟩
          replace S := S.below hb9
          clear hb9 Hix y0
          rcases hi with ⟨rfl, _⟩ | ⟨j, q, rfl, hj, _, _⟩
          · go_upto_region 15 with fail
            obtain ⟨q, hq⟩ : ∃ q : EQ, (⟨x, A, c⟩ : EQ) = q := ⟨_, rfl⟩
            rw [hq] at Hnew
            have Hqf := Lib.hid Hnew.out
            obtain ⟨v2, hv2⟩ : ∃ v2, Value.slice A0 ps.length c0 = v2 := ⟨_, rfl⟩
            replace S : St b (m + 1500 * k + 1440) w1 w9 (lgsP X K l.length ck v B qs AT La GN Lg Y K2 ck2 v2 B2 ps fs9 g2 B3 gn (.loc U (evCs q.e q.A q.c) 47 :: .loc V #[.string id] 9 :: ch)) := by rw [← hq, ← hv2]; exact S
            clear hq hv2
            have u0 := (S.lv 9 rfl).all
            have hTM := HTW.out _ _ S.g
            have hK1 : Sl rScm (fun _ => False) w9 K l := (S.slc (i1 + 11) h1).mono (fun _ _ h => h.elim)
            have hqd : Sl rFld (fun _ => False) w9 q.A q.e.flds := (S.fl 7 rfl q Hqf.out).mono (fun _ _ h => h.elim)
            obtain ⟨wb, _, M, back⟩ := S.viaMem
            have Had := Lib.hid (add_log _ X l K ck v B qs AT La GN Lg q.e q.A q.c M hK1 (scms_good hfz) hqd (Hsub.out.2 q Hqf.out).ok (Nat.le_trans (Hsub.out.2 q Hqf.out).fl (by decide)) hTM.1 hTM.2 Hok.out.s.lo Hok.out.tm Hok.out.go Hok.out.ap (by rw [Hok.out.len]; have := Hbd.out; omega) (fun p hp => Nat.le_trans (Hok.out.qsm p hp).fl (by decide)) (Nat.le_trans hBX (Nat.le_of_lt (S.lv 0 rfl).lt)))
            have HB := Lib.hid back
            clear S M back hTM hK1 hqd
            go_wp2_with fail
            refine (Had.out).mono ?_
            rintro e wA ⟨ok1, er1, rfl, hto1, hM1⟩
            clear Had u0
            have Hto1 := Lib.hid hto1
            clear hto1
            obtain ⟨qs2, La2, v9, hS1, Hq2⟩ : ∃ (qs2 : List EQ) (La2 : List (ByteArray × Value)) (v9 : Value), St b (m + 1500 * k + 1450) w1 wA (lgsP X K l.length ck v9 B qs2 AT La2 GN Lg Y K2 ck2 v2 B2 ps fs9 g2 B3 gn (.loc U (evCs q.e q.A q.c) 47 :: .loc V #[.string id] 9 :: ch)) ∧ Hid (AddP q.e qs La qs2 La2 ok1) := by
              rcases hM1 with ⟨ho, hM⟩ | ⟨ho, i, q', v', hq', hp, hM⟩
              · exact ⟨qs, La, v, (HB.out _ _ hM).mono (by omega), .inl ⟨ho, rfl, rfl⟩⟩
              · exact ⟨_, _, v', (HB.out _ _ hM).mono (by omega), .inr ⟨ho, i, q', hq', hp, rfl, rfl⟩⟩
            have u1 := (hS1.lv 9 rfl).all
            have hTM := HTW.out _ _ hS1.g
            have hK2 : Sl rScm (fun _ => False) wA K2 l := (hS1.slc (i2 + 11) h2).mono (fun _ _ h => h.elim)
            obtain ⟨wb, _, M, back⟩ := hS1.viaMem
            have M2 : Mem wb wA (rlgP Y K2 l.length ck2 v2 B2 ps fs9 g2 B3 gn (logP X K l.length ck v9 B qs2 AT La2 GN (.mapG keyStr GN Lg :: .loc U (evCs q.e q.A q.c) 47 :: .loc V #[.string id] 9 :: ch))) := M.perm (perm_ref _ _ _ _ _ _ _ _ _ _)
            have Had := Lib.hid (add_rlg _ Y l K2 ck2 v2 B2 ps fs9 g2 B3 gn q M2 hK2 hsm.ok Hqf.out Hsub.out.1 Hsub.out.2 hTM.1 hTM.2 (by have := Hbd.out; omega) (by have := Hbd.out; omega) hBY)
            have HB := Lib.hid back
            clear hS1 M M2 back hTM hM1 hK2
            go_wp2_with fail
            refine (Had.out).mono ?_
            rintro e wC ⟨ok2, er2, rfl, hto2, hM2⟩
            clear Had u1
            rw [evF_suf hfz] at hto2
            obtain ⟨hoo, hee⟩ := Hok.out.s.addTo Hto1.out hto2
            subst hoo hee
            clear hto2
            obtain ⟨ps3, v8, hS2, Hr2⟩ : ∃ (ps3 : List EQ) (v8 : Value), St b (m + 1500 * k + 1450) w1 wC (lgsP X K l.length ck v9 B qs2 AT La2 GN Lg Y K2 ck2 v8 B2 ps3 fs9 g2 B3 gn ch) ∧ Hid ((ok1 = false ∧ ps3 = ps) ∨ (ok1 = true ∧ ps3 = ps ++ [q])) := by
              rcases hM2 with ⟨ho, hM⟩ | ⟨ho, v', hM⟩
              · exact ⟨ps, v2, ((HB.out _ _ (hM.perm (perm_ref _ _ _ _ _ _ _ _ _ _).symm)).del 10).del 9, .inl ⟨ho, rfl⟩⟩
              · exact ⟨ps ++ [q], v', ((HB.out _ _ (hM.perm (perm_ref _ _ _ _ _ _ _ _ _ _).symm)).del 10).del 9, .inr ⟨ho, rfl⟩⟩
            have hbo := Hok.out.addBoth (Hsub.out.2 q Hqf.out) Hto1.out Hq2.out Hr2.out
            have Hok2 := Lib.hid hbo.1
            have Hsub2 : Hid (SubOk ps3 fs9) := ⟨fun p hp => by
              rcases hbo.2.1 p hp with h | h
              · exact Hsub.out.1 p h
              · rw [h]; exact Hqf.out, Hsub.out.2⟩
            have Hbd2 : Hid (ps3.length ≤ k + 1 ∧ gn.length ≤ k + 1) := by have h1 := hbo.2.2; have h2 := Hbd.out; exact ⟨by omega, by omega⟩
            clear hM2 Hq2 Hr2 Hto1 HB hbo
            go_wp2_with fail
            go_roundw
            case rel => exact ⟨k + 1, v9, qs2, La2, Lg, v8, ps3, fs9, g2, gn, by omega, by go_num, Hok2, Hsub2, Hbd2, hS2.mono (by omega)⟩
            case measure => simp [intOf]; omega
          · have Hj := Lib.hid hj
            have hjl : j < ps.length := (List.getElem?_eq_some_iff.1 hj).1
            clear hj
            go_wp2_with fail
            refine (flip_any b _ 2 _ S.g.s (by omega) (by omega) (by omega)).mono ?_
            rintro e w10 ⟨bo, rfl, hk10, hs10⟩
            replace S := S.step hk10 hs10
            clear hk10 hs10
            cases bo
            · go_upto_region 15 with fail
              clear hjl Hj
              obtain ⟨q, hq⟩ : ∃ q : EQ, (⟨x, A, c⟩ : EQ) = q := ⟨_, rfl⟩
              rw [hq] at Hnew
              have Hqf := Lib.hid Hnew.out
              obtain ⟨v2, hv2⟩ : ∃ v2, Value.slice A0 ps.length c0 = v2 := ⟨_, rfl⟩
              replace S : St b (m + 1500 * k + 1440 + 1) w1 w10 (lgsP X K l.length ck v B qs AT La GN Lg Y K2 ck2 v2 B2 ps fs9 g2 B3 gn (.loc U (evCs q.e q.A q.c) 47 :: .loc V #[.string id] 9 :: ch)) := by rw [← hq, ← hv2]; exact S
              clear hq hv2
              have u0 := (S.lv 9 rfl).all
              have hTM := HTW.out _ _ S.g
              have hK1 : Sl rScm (fun _ => False) w10 K l := (S.slc (i1 + 11) h1).mono (fun _ _ h => h.elim)
              have hqd : Sl rFld (fun _ => False) w10 q.A q.e.flds := (S.fl 7 rfl q Hqf.out).mono (fun _ _ h => h.elim)
              obtain ⟨wb, _, M, back⟩ := S.viaMem
              have Had := Lib.hid (add_log _ X l K ck v B qs AT La GN Lg q.e q.A q.c M hK1 (scms_good hfz) hqd (Hsub.out.2 q Hqf.out).ok (Nat.le_trans (Hsub.out.2 q Hqf.out).fl (by decide)) hTM.1 hTM.2 Hok.out.s.lo Hok.out.tm Hok.out.go Hok.out.ap (by rw [Hok.out.len]; have := Hbd.out; omega) (fun p hp => Nat.le_trans (Hok.out.qsm p hp).fl (by decide)) (Nat.le_trans hBX (Nat.le_of_lt (S.lv 0 rfl).lt)))
              have HB := Lib.hid back
              clear S M back hTM hK1 hqd
              go_wp2_with fail
              refine (Had.out).mono ?_
              rintro e wA ⟨ok1, er1, rfl, hto1, hM1⟩
              clear Had u0
              have Hto1 := Lib.hid hto1
              clear hto1
              obtain ⟨qs2, La2, v9, hS1, Hq2⟩ : ∃ (qs2 : List EQ) (La2 : List (ByteArray × Value)) (v9 : Value), St b (m + 1500 * k + 1450) w1 wA (lgsP X K l.length ck v9 B qs2 AT La2 GN Lg Y K2 ck2 v2 B2 ps fs9 g2 B3 gn (.loc U (evCs q.e q.A q.c) 47 :: .loc V #[.string id] 9 :: ch)) ∧ Hid (AddP q.e qs La qs2 La2 ok1) := by
                rcases hM1 with ⟨ho, hM⟩ | ⟨ho, i, q', v', hq', hp, hM⟩
                · exact ⟨qs, La, v, (HB.out _ _ hM).mono (by omega), .inl ⟨ho, rfl, rfl⟩⟩
                · exact ⟨_, _, v', (HB.out _ _ hM).mono (by omega), .inr ⟨ho, i, q', hq', hp, rfl, rfl⟩⟩
              have u1 := (hS1.lv 9 rfl).all
              have hTM := HTW.out _ _ hS1.g
              have hK2 : Sl rScm (fun _ => False) wA K2 l := (hS1.slc (i2 + 11) h2).mono (fun _ _ h => h.elim)
              obtain ⟨wb, _, M, back⟩ := hS1.viaMem
              have M2 : Mem wb wA (rlgP Y K2 l.length ck2 v2 B2 ps fs9 g2 B3 gn (logP X K l.length ck v9 B qs2 AT La2 GN (.mapG keyStr GN Lg :: .loc U (evCs q.e q.A q.c) 47 :: .loc V #[.string id] 9 :: ch))) := M.perm (perm_ref _ _ _ _ _ _ _ _ _ _)
              have Had := Lib.hid (add_rlg _ Y l K2 ck2 v2 B2 ps fs9 g2 B3 gn q M2 hK2 hsm.ok Hqf.out Hsub.out.1 Hsub.out.2 hTM.1 hTM.2 (by have := Hbd.out; omega) (by have := Hbd.out; omega) hBY)
              have HB := Lib.hid back
              clear hS1 M M2 back hTM hM1 hK2
              go_wp2_with fail
              refine (Had.out).mono ?_
              rintro e wC ⟨ok2, er2, rfl, hto2, hM2⟩
              clear Had u1
              rw [evF_suf hfz] at hto2
              obtain ⟨hoo, hee⟩ := Hok.out.s.addTo Hto1.out hto2
              subst hoo hee
              clear hto2
              obtain ⟨ps3, v8, hS2, Hr2⟩ : ∃ (ps3 : List EQ) (v8 : Value), St b (m + 1500 * k + 1450) w1 wC (lgsP X K l.length ck v9 B qs2 AT La2 GN Lg Y K2 ck2 v8 B2 ps3 fs9 g2 B3 gn ch) ∧ Hid ((ok1 = false ∧ ps3 = ps) ∨ (ok1 = true ∧ ps3 = ps ++ [q])) := by
                rcases hM2 with ⟨ho, hM⟩ | ⟨ho, v', hM⟩
                · exact ⟨ps, v2, ((HB.out _ _ (hM.perm (perm_ref _ _ _ _ _ _ _ _ _ _).symm)).del 10).del 9, .inl ⟨ho, rfl⟩⟩
                · exact ⟨ps ++ [q], v', ((HB.out _ _ (hM.perm (perm_ref _ _ _ _ _ _ _ _ _ _).symm)).del 10).del 9, .inr ⟨ho, rfl⟩⟩
              have hbo := Hok.out.addBoth (Hsub.out.2 q Hqf.out) Hto1.out Hq2.out Hr2.out
              have Hok2 := Lib.hid hbo.1
              have Hsub2 : Hid (SubOk ps3 fs9) := ⟨fun p hp => by
                rcases hbo.2.1 p hp with h | h
                · exact Hsub.out.1 p h
                · rw [h]; exact Hqf.out, Hsub.out.2⟩
              have Hbd2 : Hid (ps3.length ≤ k + 1 ∧ gn.length ≤ k + 1) := by have h1 := hbo.2.2; have h2 := Hbd.out; exact ⟨by omega, by omega⟩
              clear hM2 Hq2 Hr2 Hto1 HB hbo
              go_wp2_with fail
              go_roundw
              case rel => exact ⟨k + 1, v9, qs2, La2, Lg, v8, ps3, fs9, g2, gn, by omega, by go_num, Hok2, Hsub2, Hbd2, hS2.mono (by omega)⟩
              case measure => simp [intOf]; omega
            · have Hqf : Hid (q ∈ fs9) := Hsub.out.1 q (List.mem_of_getElem? Hj.out)
              obtain ⟨blk, off, e9, hblk, d0, d1, d2, d3, d4, d5⟩ := hrowE ((S.ow 6 rfl).slF flatEQ) Hj.out
              subst e9
              have y0 := (S.lv 5 rfl).all
              have u9 := (S.lv 9 rfl).all
              go_upto_region 15 with fail
              replace S := (((((S.set 9 0 (.string q.e.id) rfl).set 9 1 (.string q.e.name) rfl).set 9 2 (.int .i64 q.e.at') rfl).set 9 3 (.int .i64 q.e.kind) rfl).set 9 4 (.string q.e.text) rfl).set 9 5 (.slice q.A q.e.flds.length q.c) rfl
              obtain ⟨v2, hv2⟩ : ∃ v2, Value.slice (some ⟨blk, off, none⟩) ps.length c0 = v2 := ⟨_, rfl⟩
              replace S : St b (m + 1500 * k + 1440 + 1) w1 _ (lgsP X K l.length ck v B qs AT La GN Lg Y K2 ck2 (.slice (some ⟨blk, off, none⟩) ps.length c0) B2 ps fs9 g2 B3 gn (.loc U (evCs q.e q.A q.c) 47 :: .loc V #[.string id] 9 :: ch)) := S
              rw [hv2] at S
              clear d0 d1 d2 d3 d4 d5 hblk y0 u9 hjl Hj hv2
              generalize World.setCell _ _ _ = w11 at S ⊢
              have u0 := (S.lv 9 rfl).all
              have hTM := HTW.out _ _ S.g
              have hK1 : Sl rScm (fun _ => False) w11 K l := (S.slc (i1 + 11) h1).mono (fun _ _ h => h.elim)
              have hqd : Sl rFld (fun _ => False) w11 q.A q.e.flds := (S.fl 7 rfl q Hqf.out).mono (fun _ _ h => h.elim)
              obtain ⟨wb, _, M, back⟩ := S.viaMem
              have Had := Lib.hid (add_log _ X l K ck v B qs AT La GN Lg q.e q.A q.c M hK1 (scms_good hfz) hqd (Hsub.out.2 q Hqf.out).ok (Nat.le_trans (Hsub.out.2 q Hqf.out).fl (by decide)) hTM.1 hTM.2 Hok.out.s.lo Hok.out.tm Hok.out.go Hok.out.ap (by rw [Hok.out.len]; have := Hbd.out; omega) (fun p hp => Nat.le_trans (Hok.out.qsm p hp).fl (by decide)) (Nat.le_trans hBX (Nat.le_of_lt (S.lv 0 rfl).lt)))
              have HB := Lib.hid back
              clear S M back hTM hK1 hqd
              go_wp2_with fail
              refine (Had.out).mono ?_
              rintro e wA ⟨ok1, er1, rfl, hto1, hM1⟩
              clear Had u0
              have Hto1 := Lib.hid hto1
              clear hto1
              obtain ⟨qs2, La2, v9, hS1, Hq2⟩ : ∃ (qs2 : List EQ) (La2 : List (ByteArray × Value)) (v9 : Value), St b (m + 1500 * k + 1450) w1 wA (lgsP X K l.length ck v9 B qs2 AT La2 GN Lg Y K2 ck2 v2 B2 ps fs9 g2 B3 gn (.loc U (evCs q.e q.A q.c) 47 :: .loc V #[.string id] 9 :: ch)) ∧ Hid (AddP q.e qs La qs2 La2 ok1) := by
                rcases hM1 with ⟨ho, hM⟩ | ⟨ho, i, q', v', hq', hp, hM⟩
                · exact ⟨qs, La, v, (HB.out _ _ hM).mono (by omega), .inl ⟨ho, rfl, rfl⟩⟩
                · exact ⟨_, _, v', (HB.out _ _ hM).mono (by omega), .inr ⟨ho, i, q', hq', hp, rfl, rfl⟩⟩
              have u1 := (hS1.lv 9 rfl).all
              have hTM := HTW.out _ _ hS1.g
              have hK2 : Sl rScm (fun _ => False) wA K2 l := (hS1.slc (i2 + 11) h2).mono (fun _ _ h => h.elim)
              obtain ⟨wb, _, M, back⟩ := hS1.viaMem
              have M2 : Mem wb wA (rlgP Y K2 l.length ck2 v2 B2 ps fs9 g2 B3 gn (logP X K l.length ck v9 B qs2 AT La2 GN (.mapG keyStr GN Lg :: .loc U (evCs q.e q.A q.c) 47 :: .loc V #[.string id] 9 :: ch))) := M.perm (perm_ref _ _ _ _ _ _ _ _ _ _)
              have Had := Lib.hid (add_rlg _ Y l K2 ck2 v2 B2 ps fs9 g2 B3 gn q M2 hK2 hsm.ok Hqf.out Hsub.out.1 Hsub.out.2 hTM.1 hTM.2 (by have := Hbd.out; omega) (by have := Hbd.out; omega) hBY)
              have HB := Lib.hid back
              clear hS1 M M2 back hTM hM1 hK2
              go_wp2_with fail
              refine (Had.out).mono ?_
              rintro e wC ⟨ok2, er2, rfl, hto2, hM2⟩
              clear Had u1
              rw [evF_suf hfz] at hto2
              obtain ⟨hoo, hee⟩ := Hok.out.s.addTo Hto1.out hto2
              subst hoo hee
              clear hto2
              obtain ⟨ps3, v8, hS2, Hr2⟩ : ∃ (ps3 : List EQ) (v8 : Value), St b (m + 1500 * k + 1450) w1 wC (lgsP X K l.length ck v9 B qs2 AT La2 GN Lg Y K2 ck2 v8 B2 ps3 fs9 g2 B3 gn ch) ∧ Hid ((ok1 = false ∧ ps3 = ps) ∨ (ok1 = true ∧ ps3 = ps ++ [q])) := by
                rcases hM2 with ⟨ho, hM⟩ | ⟨ho, v', hM⟩
                · exact ⟨ps, v2, ((HB.out _ _ (hM.perm (perm_ref _ _ _ _ _ _ _ _ _ _).symm)).del 10).del 9, .inl ⟨ho, rfl⟩⟩
                · exact ⟨ps ++ [q], v', ((HB.out _ _ (hM.perm (perm_ref _ _ _ _ _ _ _ _ _ _).symm)).del 10).del 9, .inr ⟨ho, rfl⟩⟩
              have hbo := Hok.out.addBoth (Hsub.out.2 q Hqf.out) Hto1.out Hq2.out Hr2.out
              have Hok2 := Lib.hid hbo.1
              have Hsub2 : Hid (SubOk ps3 fs9) := ⟨fun p hp => by
                rcases hbo.2.1 p hp with h | h
                · exact Hsub.out.1 p h
                · rw [h]; exact Hqf.out, Hsub.out.2⟩
              have Hbd2 : Hid (ps3.length ≤ k + 1 ∧ gn.length ≤ k + 1) := by have h1 := hbo.2.2; have h2 := Hbd.out; exact ⟨by omega, by omega⟩
              clear hM2 Hq2 Hr2 Hto1 HB hbo
              go_wp2_with fail
              go_roundw
              case rel => exact ⟨k + 1, v9, qs2, La2, Lg, v8, ps3, fs9, g2, gn, by omega, by go_num, Hok2, Hsub2, Hbd2, hS2.mono (by omega)⟩
              case measure => simp [intOf]; omega
      · go_wp2_with fail
        refine (flip_any b _ 20 _ S.g.s (by omega) (by omega) (by omega)).mono ?_
        rintro e w7 ⟨bo, rfl, hk7, hs7⟩
        replace S := S.step hk7 hs7
        clear hk7 hs7
        cases bo
        · have u0 := (S.lv 9 rfl).all
          have hnd : (La.map Prod.fst).Nodup := MapG.nodup (S.ok (.mapG keyStr AT La) (.tail _ (.tail _ (.tail _ (.head _)))))
          have Hnd := Lib.hid hnd
          obtain ⟨wb, _, M, back⟩ := S.viaMem
          have Hre := Lib.hid (ret_log _ X K l.length ck v B qs AT La GN Lg id M (Nat.le_trans Hid0.out (by decide)) Hok.out.s.lo Hok.out.tm Hok.out.go Hok.out.ap (by rw [Hok.out.len]; have := Hbd.out; omega) (by rw [Hok.out.glen]; have := Hbd.out; omega))
          have HB := Lib.hid back
          clear S M back hnd
          go_wp2_with fail
          refine (Hre.out).mono ?_
          rintro e wA ⟨ok1, er1, rfl, hto1, hM1⟩
          have Hto1 := Lib.hid hto1
          clear Hre u0 hto1
          obtain ⟨qs2, La2, Lg2, v9, hS1, Hq2⟩ : ∃ (qs2 : List EQ) (La2 Lg2 : List (ByteArray × Value)) (v9 : Value), St b (m + 1500 * k + 1450) w1 wA (lgsP X K l.length ck v9 B qs2 AT La2 GN Lg2 Y K2 ck2 v2 B2 ps fs g2 B3 gn (.loc V #[.string id] 9 :: ch)) ∧ Hid (RetP id qs La Lg qs2 La2 Lg2) := by
            rcases hM1 with ⟨h3, hM⟩ | ⟨h3, h4, hM⟩ | ⟨h3, i, q', v', h4, h5, hM⟩
            · exact ⟨_, _, _, _, (HB.out _ _ hM).mono (by omega), .inl ⟨h3, rfl, rfl, rfl⟩⟩
            · exact ⟨_, _, _, _, (HB.out _ _ hM).mono (by omega), .inr (.inl ⟨h3, h4, rfl, rfl, rfl⟩)⟩
            · exact ⟨_, _, _, _, (HB.out _ _ hM).mono (by omega), .inr (.inr ⟨h3, i, q', h4, h5, rfl, rfl, rfl⟩)⟩
          have u1 := (hS1.lv 9 rfl).all
          obtain ⟨wb, _, M, back⟩ := hS1.viaMem
          have M2 : Mem wb wA (rlgP Y K2 l.length ck2 v2 B2 ps fs g2 B3 gn (logP X K l.length ck v9 B qs2 AT La2 GN (.mapG keyStr GN Lg2 :: .loc V #[.string id] 9 :: ch))) := M.perm (perm_ref _ _ _ _ _ _ _ _ _ _)
          have Hre := Lib.hid (ret_rlg _ Y K2 l.length ck2 v2 B2 ps fs g2 B3 gn id M2 (Nat.le_trans Hid0.out (by decide)) (by have := Hbd.out; omega) (by have := Hbd.out; omega) hBY hB3)
          have HB := Lib.hid back
          clear hS1 M M2 back hM1
          go_wp2_with fail
          refine (Hre.out).mono ?_
          rintro e wC ⟨ok2, er2, rfl, hto2, hM2⟩
          clear Hre u1
          obtain ⟨hoo, hee⟩ := Hok.out.s.retTo Hto1.out hto2
          subst hoo hee
          clear hto2 Hto1
          obtain ⟨ps3, v8, g8, gn3, hS2, Hr2⟩ : ∃ (ps3 : List EQ) (v8 g8 : Value) (gn3 : List ByteArray), St b (m + 1500 * k + 1450) w1 wC (lgsP X K l.length ck v9 B qs2 AT La2 GN Lg2 Y K2 ck2 v8 B2 ps3 fs g8 B3 gn3 ch) ∧ Hid (RetR id ps gn ps3 gn3) := by
            rcases hM2 with ⟨h3, hM⟩ | ⟨h3, h4, hM⟩ | ⟨h3, h4, h5, g', hM⟩ | ⟨h3, h4, i, q', v', g', h5, h6, hM⟩
            · exact ⟨_, _, _, _, (HB.out _ _ (hM.perm (perm_ref _ _ _ _ _ _ _ _ _ _).symm)).del 9, .inl ⟨h3, rfl, rfl⟩⟩
            · exact ⟨_, _, _, _, (HB.out _ _ (hM.perm (perm_ref _ _ _ _ _ _ _ _ _ _).symm)).del 9, .inr (.inl ⟨h3, h4, rfl, rfl⟩)⟩
            · exact ⟨_, _, _, _, (HB.out _ _ (hM.perm (perm_ref _ _ _ _ _ _ _ _ _ _).symm)).del 9, .inr (.inr (.inl ⟨h3, h4, h5, rfl, rfl⟩))⟩
            · exact ⟨_, _, _, _, (HB.out _ _ (hM.perm (perm_ref _ _ _ _ _ _ _ _ _ _).symm)).del 9, .inr (.inr (.inr ⟨h3, h4, i, q', h5, h6, rfl, rfl⟩))⟩
          have hbo := Hok.out.retBoth Hnd.out Hq2.out Hr2.out
          have Hok2 := Lib.hid hbo.1
          have Hsub2 : Hid (SubOk ps3 fs) := ⟨fun p hp => Hsub.out.1 p (hbo.2.1 p hp), Hsub.out.2⟩
          have Hbd2 : Hid (ps3.length ≤ k + 1 ∧ gn3.length ≤ k + 1) := by have h1 := hbo.2.2; have h2 := Hbd.out; exact ⟨by omega, by omega⟩
          clear hM2 Hq2 Hr2 HB hbo
          go_wp2_with fail
          go_roundw
          case rel => exact ⟨k + 1, v9, qs2, La2, Lg2, v8, ps3, fs, g8, gn3, by omega, by go_num, Hok2, Hsub2, Hbd2, hS2.mono (by omega)⟩
          case measure => simp [intOf]; omega
        · have V0 := (S.lv 9 rfl).all
          replace S := S.set 9 0 (.string ⟨#[]⟩) rfl
          replace S : St b (m + 1500 * k + 1 + 1 + 1) w1 _ (lgsP X K l.length ck v B qs AT La GN Lg Y K2 ck2 v2 B2 ps fs g2 B3 gn (.loc V #[.string ⟨#[]⟩] 9 :: ch)) := S
          go_upto_region 7 with fail
          clear V0
          generalize World.setCell _ _ _ = w8 at S ⊢
          have u0 := (S.lv 9 rfl).all
          have hnd : (La.map Prod.fst).Nodup := MapG.nodup (S.ok (.mapG keyStr AT La) (.tail _ (.tail _ (.tail _ (.head _)))))
          have Hnd := Lib.hid hnd
          obtain ⟨wb, _, M, back⟩ := S.viaMem
          have Hre := Lib.hid (ret_log _ X K l.length ck v B qs AT La GN Lg ⟨#[]⟩ M (by decide) Hok.out.s.lo Hok.out.tm Hok.out.go Hok.out.ap (by rw [Hok.out.len]; have := Hbd.out; omega) (by rw [Hok.out.glen]; have := Hbd.out; omega))
          have HB := Lib.hid back
          clear S M back hnd
          go_wp2_with fail
          refine (Hre.out).mono ?_
          rintro e wA ⟨ok1, er1, rfl, hto1, hM1⟩
          have Hto1 := Lib.hid hto1
          clear Hre u0 hto1
          obtain ⟨qs2, La2, Lg2, v9, hS1, Hq2⟩ : ∃ (qs2 : List EQ) (La2 Lg2 : List (ByteArray × Value)) (v9 : Value), St b (m + 1500 * k + 1450) w1 wA (lgsP X K l.length ck v9 B qs2 AT La2 GN Lg2 Y K2 ck2 v2 B2 ps fs g2 B3 gn (.loc V #[.string ⟨#[]⟩] 9 :: ch)) ∧ Hid (RetP ⟨#[]⟩ qs La Lg qs2 La2 Lg2) := by
            rcases hM1 with ⟨h3, hM⟩ | ⟨h3, h4, hM⟩ | ⟨h3, i, q', v', h4, h5, hM⟩
            · exact ⟨_, _, _, _, (HB.out _ _ hM).mono (by omega), .inl ⟨h3, rfl, rfl, rfl⟩⟩
            · exact ⟨_, _, _, _, (HB.out _ _ hM).mono (by omega), .inr (.inl ⟨h3, h4, rfl, rfl, rfl⟩)⟩
            · exact ⟨_, _, _, _, (HB.out _ _ hM).mono (by omega), .inr (.inr ⟨h3, i, q', h4, h5, rfl, rfl, rfl⟩)⟩
          have u1 := (hS1.lv 9 rfl).all
          obtain ⟨wb, _, M, back⟩ := hS1.viaMem
          have M2 : Mem wb wA (rlgP Y K2 l.length ck2 v2 B2 ps fs g2 B3 gn (logP X K l.length ck v9 B qs2 AT La2 GN (.mapG keyStr GN Lg2 :: .loc V #[.string ⟨#[]⟩] 9 :: ch))) := M.perm (perm_ref _ _ _ _ _ _ _ _ _ _)
          have Hre := Lib.hid (ret_rlg _ Y K2 l.length ck2 v2 B2 ps fs g2 B3 gn ⟨#[]⟩ M2 (by decide) (by have := Hbd.out; omega) (by have := Hbd.out; omega) hBY hB3)
          have HB := Lib.hid back
          clear hS1 M M2 back hM1
          go_wp2_with fail
          refine (Hre.out).mono ?_
          rintro e wC ⟨ok2, er2, rfl, hto2, hM2⟩
          clear Hre u1
          obtain ⟨hoo, hee⟩ := Hok.out.s.retTo Hto1.out hto2
          subst hoo hee
          clear hto2 Hto1
          obtain ⟨ps3, v8, g8, gn3, hS2, Hr2⟩ : ∃ (ps3 : List EQ) (v8 g8 : Value) (gn3 : List ByteArray), St b (m + 1500 * k + 1450) w1 wC (lgsP X K l.length ck v9 B qs2 AT La2 GN Lg2 Y K2 ck2 v8 B2 ps3 fs g8 B3 gn3 ch) ∧ Hid (RetR ⟨#[]⟩ ps gn ps3 gn3) := by
            rcases hM2 with ⟨h3, hM⟩ | ⟨h3, h4, hM⟩ | ⟨h3, h4, h5, g', hM⟩ | ⟨h3, h4, i, q', v', g', h5, h6, hM⟩
            · exact ⟨_, _, _, _, (HB.out _ _ (hM.perm (perm_ref _ _ _ _ _ _ _ _ _ _).symm)).del 9, .inl ⟨h3, rfl, rfl⟩⟩
            · exact ⟨_, _, _, _, (HB.out _ _ (hM.perm (perm_ref _ _ _ _ _ _ _ _ _ _).symm)).del 9, .inr (.inl ⟨h3, h4, rfl, rfl⟩)⟩
            · exact ⟨_, _, _, _, (HB.out _ _ (hM.perm (perm_ref _ _ _ _ _ _ _ _ _ _).symm)).del 9, .inr (.inr (.inl ⟨h3, h4, h5, rfl, rfl⟩))⟩
            · exact ⟨_, _, _, _, (HB.out _ _ (hM.perm (perm_ref _ _ _ _ _ _ _ _ _ _).symm)).del 9, .inr (.inr (.inr ⟨h3, h4, i, q', h5, h6, rfl, rfl⟩))⟩
          have hbo := Hok.out.retBoth Hnd.out Hq2.out Hr2.out
          have Hok2 := Lib.hid hbo.1
          have Hsub2 : Hid (SubOk ps3 fs) := ⟨fun p hp => Hsub.out.1 p (hbo.2.1 p hp), Hsub.out.2⟩
          have Hbd2 : Hid (ps3.length ≤ k + 1 ∧ gn3.length ≤ k + 1) := by have h1 := hbo.2.2; have h2 := Hbd.out; exact ⟨by omega, by omega⟩
          clear hM2 Hq2 Hr2 HB hbo
          go_wp2_with fail
          go_roundw
          case rel => exact ⟨k + 1, v9, qs2, La2, Lg2, v8, ps3, fs, g8, gn3, by omega, by go_num, Hok2, Hsub2, Hbd2, hS2.mono (by omega)⟩
          case measure => simp [intOf]; omega
    · obtain rfl : k = n := by omega
      have Hps : Hid (ps.length ≤ 900 ∧ gn.length ≤ 900) := by have := Hbd.out; exact ⟨by omega, by omega⟩
      obtain ⟨A1, c1, e1⟩ := (S.ow 1 rfl).len
      subst e1
      have hnil1 : A1 = none → c1 = 0 := fun e => by
        rcases (S.ow 1 rfl).shape2 with ⟨e2, h0⟩ | ⟨g9, cap, e2, _⟩
        · simp only [Value.slice.injEq] at e2
          exact e2.2.2
        · rw [e] at e2; simp at e2
      obtain ⟨A2, c2, e2⟩ := (S.ow 6 rfl).len
      subst e2
      have hnil2 : A2 = none → c2 = 0 := fun e => by
        rcases (S.ow 6 rfl).shape2 with ⟨e2, h0⟩ | ⟨g9, cap, e2, _⟩
        · simp only [Value.slice.injEq] at e2
          exact e2.2.2
        · rw [e] at e2; simp at e2
      have Hnil2 : Hid (A2 = none → c2 = 0) := hnil2
      have hql : qs.length ≤ 900 := by rw [Hok.out.len]; exact Hps.out.1
      have Hql := Lib.hid hql
      have Hcp := Lib.hid (events_log X K l.length ck A1 c1 AT GN qs wr (S.lv 0 rfl) ((S.ow 1 rfl).slF flatEQ) (fun q hq => (S.fl 2 rfl q hq).mono (fun _ _ h => h.elim)) (Nat.le_trans hql (by decide)) hnil1 (fun q hq => Nat.le_trans (Hok.out.qsm q hq).fl (by decide)))
      have x0 := (S.lv 0 rfl).all
      clear hnil1 hnil2 hql
      go_wp2_with fail
      refine (Hcp.out).mono ?_
      rintro e w21 ⟨v9, zs, rfl, hz, T9⟩
      obtain ⟨A3, c3, e3, T8⟩ := T9.frz 0 rfl
      have hzl : zs.length = qs.length := by have := congrArg List.length hz; simpa using this
      rw [hzl] at e3
      subst e3
      have T7 : Mem wr w21 [.sl rEQ A3 zs, .flds zs] := T8
      have T6 : Mem wr w21 [.sl rEvt A3 (qs.map EQ.e)] := by rw [← hz]; exact (T7.evs 0 1 rfl rfl).del 1
      obtain ⟨wb, _, M, back⟩ := S.viaMem
      replace S := (back _ _ (M.join T6)).front
      clear Hcp x0 hz T9 T8 T7 T6 M back hzl
      have Hle := Lib.hid (rlgEvents_any Y K2 l.length ck2 g2 A2 c2 ps w21 (S.lv 6 rfl) ((S.ow 7 rfl).slF flatEQ) (Nat.le_trans Hps.out.1 (by decide)) Hnil2.out)
      have y0 := (S.lv 6 rfl).all
      go_wp2_with fail
      refine (Hle.out).mono ?_
      rintro e w22 ⟨A4, c4, ys, he, hyp, hys, T9⟩
      have hye := Hok.out.evs hyp hys
      have hyl : ys.length = qs.length := by have := congrArg List.length hye; simpa using this
      rw [hyl] at he
      subst he
      obtain ⟨wb, _, M, back⟩ := S.viaMem
      replace S := (back _ _ (M.join T9)).front
      have h8 : Sl rEvt (fun _ => False) w22 A4 (qs.map EQ.e) := by
        rw [← hye]
        exact slEvt ((S.slc 0 rfl).mono (fun _ _ h => h.elim)) (fun y hy => (S.fl 9 rfl y (Hsub.out.1 y (hyp.mem_iff.1 hy))).mono (fun _ _ h => h.elim))
      have Hse := Lib.hid (sameEvents_any (fun _ => False) A3 A4 (qs.map EQ.e) c3 c4 w22 ((S.slc 1 rfl).mono (fun _ _ h => h.elim)) h8 (by rw [List.length_map]; exact Nat.le_trans Hql.out (by decide)) (fun x hx => by
        obtain ⟨q, hq, rfl⟩ := List.mem_map.1 hx
        exact Nat.le_trans (Hok.out.qsm q hq).fl (by decide)))
      rw [List.length_map] at Hse
      clear Hle y0 hyp hys hye hyl T9 M back h8
      go_wp2_with fail
      refine (Hse.out).mono ?_
      rintro e w23 ⟨rfl, hb9⟩
      replace S := ((S.below hb9).del 0).del 0
      clear Hse hb9
      have Hrt := Lib.hid (retracted_log X K l.length ck (.slice A1 qs.length c1) AT GN Lg w23 (S.lv 0 rfl) (S.ok (.mapG keyStr GN Lg) (.tail _ (.tail _ (.tail _ (.tail _ (.head _)))))) (by rw [Hok.out.glen]; exact Nat.le_trans Hps.out.2 (by decide)))
      have x0 := (S.lv 0 rfl).all
      go_wp2_with fail
      refine (Hrt.out).mono ?_
      rintro e w24 ⟨A5, c5, rfl, T9⟩
      obtain ⟨wb, _, M, back⟩ := S.viaMem
      replace S := (back _ _ (M.join T9)).front
      obtain ⟨A6, c6, e6⟩ := (S.ow 9 rfl).len
      subst e6
      have hrr := rtd_rlg Y K2 l.length ck2 (.slice A2 ps.length c2) A6 c6 gn w24 (S.lv 6 rfl) ((S.ow 9 rfl).slF flatStr) (Nat.le_trans Hps.out.2 (by decide))
      rw [← Hok.out.goneW] at hrr
      have Hrr := Lib.hid hrr
      have y0 := (S.lv 6 rfl).all
      clear Hrt x0 T9 M back hrr
      go_wp2_with fail
      refine (Hrr.out).mono ?_
      rintro e w25 ⟨A7, c7, rfl, T9⟩
      obtain ⟨wb, _, M, back⟩ := S.viaMem
      replace S := (back _ _ (M.join T9)).front
      have Hes := Lib.hid (eqStr_any (fun _ => False) A5 A7 (srtW (Lg.map Prod.fst)) c5 c7 w25 ((S.slc 1 rfl).mono (fun _ _ h => h.elim)) ((S.slc 0 rfl).mono (fun _ _ h => h.elim)) (by rw [srtW_len, List.length_map, Hok.out.glen]; exact Nat.le_trans Hps.out.2 (by decide)))
      clear Hrr y0 T9 M back
      go_wp2_with fail
      refine (Hes.out).mono ?_
      rintro e w26 ⟨rfl, hb9⟩
      replace S := ((S.below hb9).del 0).del 0
      clear Hes hb9
      have HS := Lib.hid S
      clear S
      go_wp2_with fail
      go_ret
      exact ⟨_, qs, La, Lg, _, ps, fs, _, gn, rfl, Hok.out, Hsub.out, Hbd.out.1, Hbd.out.2, HS.out⟩
end Go.Proofs.YtmlpkejeglpciaaGreatDoor
