/- Several texts in one: EvLaw, EvRef, EvChk, GenEvt. -/
import Derived.Test.YteabhkmhogmoiaaGreatDoorPackV
import Derived.Test.YteabhkmhogmoiaaGreatDoorPackW
import Derived.Test.YteabhkmhogmoiaaGreatDoorPackI
import Derived.Test.YteabhkmhogmoiaaGreatDoorPackB
import Derived.Deep.DeepCutAuto
import Derived.Test.YteabhkmhogmoiaaGreatDoorPackM
import Derived.Test.YteabhkmhogmoiaaGreatDoorPackZ
import Derived.Test.YteabhkmhogmoiaaGreatDoorPackG
/- Events and schemas: how they lie in memory, and their faults in plain words. -/
namespace Go.Proofs.YteabhkmhogmoiaaGreatDoor
open Go.RowKit
structure Evt where
  id : ByteArray
  name : ByteArray
  at' : Int
  kind : Int
  text : ByteArray
  flds : List Fld
def Evt.cells (e : Evt) : List Value := [.string e.id, .string e.name, .int .i64 e.at', .int .i64 e.kind, .string e.text]
def rEvt : Rep Evt := ((Rep.flat 5 Evt.cells (fun _ => rfl)).app rFld.list).via (fun e => (e, e.flds))
abbrev evCs (e : Evt) (A : Option Addr) (c : Nat) : Array Value := #[.string e.id, .string e.name, .int .i64 e.at', .int .i64 e.kind, .string e.text, .slice A e.flds.length c]
theorem rEvt_mk {N : Nat → Prop} {w : World} {e : Evt} {A : Option Addr} {c : Nat} (h : Sl rFld N w A e.flds) : rEvt.rel N w e (evCs e A c).toList := ⟨Evt.cells e, [.slice A e.flds.length c], rfl, rfl, A, c, rfl, h⟩
theorem rEvt_of {N : Nat → Prop} {w : World} {e : Evt} {l : List Value} (h : rEvt.rel N w e l) : ∃ A c, l = (evCs e A c).toList ∧ Sl rFld N w A e.flds := by
  obtain ⟨l1, l2, rfl, h1, A, c, rfl, h2⟩ := h
  obtain rfl : l1 = Evt.cells e := h1
  exact ⟨A, c, rfl, h2⟩
theorem Sl.evt {N : Nat → Prop} {w : World} {A : Option Addr} {xs : List Evt} (h : Sl rEvt N w A xs) (k : Nat) (e : Evt) (hk : xs[k]? = some e) : ∃ blk off Af cf, A = some ⟨blk, off, none⟩ ∧ blk < w.heap.size ∧
    w.cell? ⟨blk, off + k * 6, none⟩ = some (.string e.id) ∧ w.cell? ⟨blk, off + k * 6 + 1, none⟩ = some (.string e.name) ∧ w.cell? ⟨blk, off + k * 6 + 2, none⟩ = some (.int .i64 e.at') ∧ w.cell? ⟨blk, off + k * 6 + 3, none⟩ = some (.int .i64 e.kind) ∧
    w.cell? ⟨blk, off + k * 6 + 4, none⟩ = some (.string e.text) ∧ w.cell? ⟨blk, off + k * 6 + 5, none⟩ = some (.slice Af e.flds.length cf) ∧ Sl rFld N w Af e.flds := by
  obtain ⟨blk, off, l, e1, h1, _, h3, h4⟩ := h k e hk
  obtain ⟨Af, cf, rfl, hf⟩ := rEvt_of h3
  exact ⟨blk, off, Af, cf, e1, h1, h4 0 _ rfl, h4 1 _ rfl, h4 2 _ rfl, h4 3 _ rfl, h4 4 _ rfl, h4 5 _ rfl, hf⟩
structure EvtOk (e : Evt) : Prop where
  id : e.id.size ≤ 1000000
  nm : e.name.size ≤ 1000000
  tx : e.text.size ≤ 1000000
  fl : e.flds.length ≤ 1000000
  fs : ∀ f ∈ e.flds, f.small
def evtE (K1 K2 D : Bool) (F G : Int) : Int := if K1 = false ∨ K2 = false then 5 else if D = false then 1 else if F ≠ 0 then F else G
def evtFault (e : Evt) : Int := evtE (L.isKey e.id) (L.isKey e.name) (decide (0 ≤ e.at' ∧ e.at' ≤ 4321439)) (L.idFault e.kind e.text) (fldsFault e.flds)
structure Nd where
  name : ByteArray
  kind : Int
  must : Bool
def Nd.cells (n : Nd) : List Value := [.string n.name, .int .i64 n.kind, .bool n.must]
def rNd : Rep Nd := .flat 3 Nd.cells (fun _ => rfl)
structure Scm where
  name : ByteArray
  needs : List Nd
def Scm.cells (s : Scm) : List Value := [.string s.name]
def rScm : Rep Scm := ((Rep.flat 1 Scm.cells (fun _ => rfl)).app rNd.list).via (fun s => (s, s.needs))
theorem Sl.nd {N : Nat → Prop} {w : World} {A : Option Addr} {xs : List Nd} (h : Sl rNd N w A xs) (k : Nat) (n : Nd) (hk : xs[k]? = some n) : ∃ blk off, A = some ⟨blk, off, none⟩ ∧ blk < w.heap.size ∧
    w.cell? ⟨blk, off + k * 3, none⟩ = some (.string n.name) ∧ w.cell? ⟨blk, off + k * 3 + 1, none⟩ = some (.int .i64 n.kind) ∧ w.cell? ⟨blk, off + k * 3 + 2, none⟩ = some (.bool n.must) := by
  obtain ⟨blk, off, l, e, h1, _, h3, h4⟩ := h k n hk
  obtain rfl : l = Nd.cells n := h3
  exact ⟨blk, off, e, h1, h4 0 _ rfl, h4 1 _ rfl, h4 2 _ rfl⟩
def ndE (K C B : Bool) : Int := if K = false then 5 else if C = false then 4 else if B = true then 7 else 0
def ndF (prev : Option ByteArray) (n : Nd) : Int := ndE (L.isKey n.name) (isCh n.kind) (prev.any (fun p => leS n.name p))
def ndsGo (prev : Option ByteArray) : List Nd → Int
  | [] => 0
  | n :: r => if ndF prev n ≠ 0 then ndF prev n else ndsGo (some n.name) r
def ndsFault (l : List Nd) : Int := if 30 < l.length then 2 else ndsGo none l
def scmE (K B : Bool) (F : Int) : Int := if K = false then 5 else if B = true then 7 else F
def scmF (prev : Option ByteArray) (s : Scm) : Int := scmE (L.isKey s.name) (prev.any (fun p => leS s.name p)) (ndsFault s.needs)
def scmsGo (prev : Option ByteArray) : List Scm → Int
  | [] => 0
  | s :: r => if scmF prev s ≠ 0 then scmF prev s else scmsGo (some s.name) r
def scmsFault (l : List Scm) : Int := if 60 < l.length then 2 else scmsGo none l
structure ScmOk (l : List Scm) : Prop where
  len : l.length ≤ 1000000
  nm : ∀ s ∈ l, s.name.size ≤ 1000000
  nl : ∀ s ∈ l, s.needs.length ≤ 1000000
  nn : ∀ s ∈ l, ∀ n ∈ s.needs, n.name.size ≤ 1000000
abbrev ndIs (nm : ByteArray) (n : Nd) : Bool := n.name.toList == nm.toList
abbrev scmIs (nm : ByteArray) (s : Scm) : Bool := s.name.toList == nm.toList
abbrev fldIs (nm : ByteArray) (f : Fld) : Bool := f.name.toList == nm.toList
def ndAt (l : List Nd) (nm : ByteArray) : Option Nd := l.find? (ndIs nm)
def scmAt (l : List Scm) (nm : ByteArray) : Option Scm := l.find? (scmIs nm)
def suitF (ns : List Nd) (f : Fld) : Int := match ndAt ns f.name with | none => 8 | some n => if n.kind = f.kind then 0 else 10
def suitFs (ns : List Nd) : List Fld → Int
  | [] => 0
  | f :: r => if suitF ns f ≠ 0 then suitF ns f else suitFs ns r
def suitN (fs : List Fld) (n : Nd) : Int := if (n.must && !fs.any (fldIs n.name)) = true then 3 else 0
def suitNs (fs : List Fld) : List Nd → Int
  | [] => 0
  | n :: r => if suitN fs n ≠ 0 then suitN fs n else suitNs fs r
def suitS (s : Scm) (fs : List Fld) : Int := if suitFs s.needs fs ≠ 0 then suitFs s.needs fs else suitNs fs s.needs
def suit (l : List Scm) (e : Evt) : Int := match scmAt l e.name with | none => 8 | some s => suitS s e.flds
def evFault (l : List Scm) (e : Evt) : Int := first3 (scmsFault l) (evtFault e) (suit l e)
def RiseN (xs : List Nd) : Prop := ∀ (i j : Nat) (p q : Nd), i < j → xs[i]? = some p → xs[j]? = some q → ltS p.name q.name = true
def RiseS (xs : List Scm) : Prop := ∀ (i j : Nat) (p q : Scm), i < j → xs[i]? = some p → xs[j]? = some q → ltS p.name q.name = true
structure GoodScm (l : List Scm) : Prop where
  len : l.length ≤ 60
  nl : ∀ s ∈ l, s.needs.length ≤ 30
  nr : ∀ s ∈ l, RiseN s.needs
  rise : RiseS l
end Go.Proofs.YteabhkmhogmoiaaGreatDoor

/- What handref2.SchemasFault, first and eventFault return. -/
namespace Go.Proofs.YteabhkmhogmoiaaGreatDoor
open Go.RowKit
theorem key_le {o : Option ByteArray} {nm : ByteArray} (h : L.isKey nm = true) : o.any (fun p => leS nm p) = leS nm (o.getD ⟨#[]⟩) := by
  cases o with
  | none => rw [show (none : Option ByteArray).getD ⟨#[]⟩ = ⟨#[]⟩ from rfl, leS_nil nm h]; rfl
  | some q => rfl
structure Clo where
  g : Nat
  caps : Array Value
  err : Int
def Clo.val (c : Clo) : Value := .func (.func c.g) #[] c.caps
set_option maxHeartbeats 1000000 in
theorem first_any (blk n : Nat) (cs : List Clo) (w : World) (hnn : n = cs.length) (h : LV w blk (cs.map Clo.val).toArray 184) (hn : cs.length ≤ 1000) (he : ∀ c ∈ cs, ∀ args w, (callFunc c.g args).run Tryz.prog w = .ok (.enter c.g args) w)
    (hc : ∀ c ∈ cs, ∀ w', Below w.heap.size w w' → Calls Tryz.prog c.g c.caps w' fun e w'' => e = .returned (.int .i64 c.err) ∧ Below w'.heap.size w' w'') :
    Calls Tryz.prog 123 #[.slice (some ⟨blk, 0, none⟩) n n] w fun e w' => e = .returned (.int .i64 (firstErr (cs.map Clo.err))) ∧ Below w.heap.size w w' := by
  subst hnn
  have He := Lib.hid he
  have Hc := Lib.hid hc
  have Hh := Lib.hid h
  clear he hc h
  obtain ⟨R, HR⟩ : ∃ R, Hid (firstErr (cs.map Clo.err) = R) := ⟨_, Lib.hid rfl⟩
  rw [HR.out]
  go_enter Tryz.func123, Tryz.ntmps123
  go_wp2_with fail
  go_loopw [8] (fun i wr => ∃ k : Nat, k ≤ cs.length ∧ i = .int .i64 k ∧ firstErr ((cs.drop k).map Clo.err) = R ∧ Below w.heap.size w wr) (fun i _ => cs.length - (intOf i).toNat)
  case atStart => exact ⟨0, Nat.zero_le _, rfl, HR.out, Below.refl _ _⟩
  case round =>
    clear HR
    obtain ⟨k, hk, rfl, hr, hbl⟩ := hrel
    have Hr := Lib.hid hr
    clear hr
    by_cases hlt : k < cs.length
    · obtain ⟨c, hck⟩ : ∃ c, cs[k]? = some c := ⟨_, List.getElem?_eq_getElem hlt⟩
      have hcm := List.mem_of_getElem? hck
      have hrun := He.out c hcm
      have Hcall := Lib.hid (Hc.out c hcm wr hbl)
      have c0 : wr.cell? ⟨blk, k, none⟩ = some (.func (.func c.g) #[] c.caps) := (LV.kb3 Hh.out hbl Hh.out.lt).cell k _ (by simp [hck, Clo.val])
      have Hs : Hid ((if c.err ≠ 0 then c.err else firstErr ((cs.drop (k + 1)).map Clo.err)) = R) := by show _ = _; rw [← Hr.out, drop_at3 hck]; rfl
      have Hb := Lib.hid hbl
      clear Hr hck hcm hbl
      obtain ⟨g, caps, x⟩ := c
      simp only at hrun c0 Hcall Hs
      go_wp2_with fail
      ((with_reducible refine (Hcall.out).mono ?_); rintro e w1 ⟨rfl, hl1⟩)
      have Hb1 : Hid (Below w.heap.size w w1) := Hb.out.trans (hl1.mono Hb.out.size)
      clear Hcall hl1 c0 hrun
      by_cases hx : x = 0
      · have Hn := Lib.hid (step_go Hs.out hx)
        subst hx
        go_wp2_with fail
        go_roundw
        case rel => exact ⟨k + 1, by omega, by go_num, Hn.out, Hb1.out⟩
        case measure => simp [intOf]; omega
      · have hx' : (x != 0) = true := by simpa using hx
        have Hn := Lib.hid (step_no Hs.out hx)
        clear Hs hx
        go_wp2_with fail
        go_ret
        exact ⟨ret_i Hn.out, Hb1.out⟩
    · have Hn : Hid (0 = R) := by show _ = _; rw [← Hr.out, List.drop_eq_nil_of_le (by omega)]; rfl
      clear Hr
      go_wp2_with fail
      go_ret
      exact ⟨ret_i Hn.out, hbl⟩
theorem ef1_any (Y : Nat) (x : Evt) (A : Option Addr) (c : Nat) (w : World) (hY : LV w Y (evCs x A c) 56) (ht : x.text.size ≤ 1000000) (hM : MaxL w) :
    Calls Tryz.prog 245 #[.pointer (some ⟨Y, 0, none⟩)] w fun e w' => e = .returned (.int .i64 (L.idFault x.kind x.text)) ∧ Below w.heap.size w w' := by
  have c3 : w.cell? ⟨Y, 3, none⟩ = some (.int .i64 x.kind) := hY.cell 3 _ rfl
  have c4 : w.cell? ⟨Y, 4, none⟩ = some (.string x.text) := hY.cell 4 _ rfl
  have Hc := Lib.hid (refId_any x.kind x.text w ht hM)
  clear hM
  go_enter Tryz.func245, Tryz.ntmps245
  go_wp2_with fail
  ((with_reducible refine (Hc.out).mono ?_); rintro e w1 ⟨rfl, hl1⟩)
  go_wp2_with fail
  go_ret
  exact ⟨rfl, hl1⟩
theorem ef2_any (Y : Nat) (x : Evt) (N : Nat → Prop) (A : Option Addr) (c : Nat) (w : World) (hY : LV w Y (evCs x A c) 56) (hS : Sl rFld N w A x.flds) (hf : ∀ f ∈ x.flds, f.small) (hl : x.flds.length ≤ 1000000) (hT : Tabs w) :
    Calls Tryz.prog 246 #[.pointer (some ⟨Y, 0, none⟩)] w fun e w' => e = .returned (.int .i64 (fldsFault x.flds)) ∧ Below w.heap.size w w' := by
  have c5 : w.cell? ⟨Y, 5, none⟩ = some (.slice A x.flds.length c) := hY.cell 5 _ rfl
  have Hc := Lib.hid (refFields_any N A x.flds c w hS hf (by omega) hT)
  clear hS hf hT
  go_enter Tryz.func246, Tryz.ntmps246
  go_wp2_with fail
  ((with_reducible refine (Hc.out).mono ?_); rintro e w1 ⟨rfl, hl1⟩)
  go_wp2_with fail
  go_ret
  exact ⟨rfl, hl1⟩
set_option maxHeartbeats 4000000 in
set_option maxRecDepth 100000 in
theorem refEvent_any (N : Nat → Prop) (A : Option Addr) (c : Nat) (x : Evt) (w : World) (hS : Sl rFld N w A x.flds) (hok : EvtOk x) (hT : Tabs w) (hM : MaxL w) :
    Calls Tryz.prog 149 #[.agg (evCs x A c)] w fun e w' => e = .returned (.int .i64 (evtFault x)) ∧ Below w.heap.size w w' := by
  have hb0 : Below w.heap.size w (w.alloc (.cells (evCs x A c) 56)) := (Below.refl _ _).alloc (Nat.le_refl _) _
  have lv0 := LV.new w w.heap.size (evCs x A c) 56 rfl
  have HS := Lib.hid hS
  have HT := Lib.hid hT
  have HM := Lib.hid hM
  have Hok := Lib.hid hok
  obtain ⟨R, HR⟩ : ∃ R, Hid (evtFault x = R) := ⟨_, Lib.hid rfl⟩
  rw [HR.out]
  obtain ⟨K1, HK1⟩ : ∃ K, Hid (L.isKey x.id = K) := ⟨_, Lib.hid rfl⟩
  obtain ⟨K2, HK2⟩ : ∃ K, Hid (L.isKey x.name = K) := ⟨_, Lib.hid rfl⟩
  obtain ⟨D, HD⟩ : ∃ D, Hid (decide (0 ≤ x.at' ∧ x.at' ≤ 4321439) = D) := ⟨_, Lib.hid rfl⟩
  unfold evtFault at HR
  rw [HK1.out, HK2.out, HD.out] at HR
  have h1 := hok.id
  have h2 := hok.nm
  have C1 : Hid (∀ w, Calls Tryz.prog 98 #[.string x.id] w fun e w' => e = .returned (.bool K1) ∧ Below w.heap.size w w') := fun w => HK1.out ▸ Key_any x.id w (by omega)
  have C2 : Hid (∀ w, Calls Tryz.prog 98 #[.string x.name] w fun e w' => e = .returned (.bool K2) ∧ Below w.heap.size w w') := fun w => HK2.out ▸ Key_any x.name w (by omega)
  have C3 : Hid (∀ w, Calls Tryz.prog 99 #[.int .i64 x.at', .int .i64 0, .int .i64 4321439] w fun e w' => e = .returned (.bool D) ∧ w = w') := fun w => HD.out ▸ in_any x.at' 0 4321439 w
  clear HK1 HK2 HD hS hok hT hM h1 h2
  have Hb0 := Lib.hid hb0
  go_enter Tryz.func149, Tryz.ntmps149
  go_upto_region 1 with fail
  generalize w.alloc (.cells (evCs x A c) 56) = w1 at *
  obtain ⟨Y, hY⟩ : ∃ Y, Y = w.heap.size := ⟨_, rfl⟩
  rw [← hY] at lv0 ⊢
  have c0 := lv0.all
  clear hb0 hY
  go_wp2_with fail
  ((with_reducible refine (C1.out w1).mono ?_); rintro e w2 ⟨rfl, hl2⟩)
  have Hb2 : Hid (Below w.heap.size w w2) := Hb0.out.trans (hl2.mono Hb0.out.size)
  replace lv0 := LV.kb3 lv0 hl2 lv0.lt
  replace c0 := lv0.all
  clear hl2 C1 Hb0
  cases K1
  · have Hn : Hid (5 = R) := by show _ = _; rw [← HR.out]; simp [evtE]
    go_wp2_with fail
    go_ret
    exact ⟨ret_i Hn.out, Hb2.out⟩
  · go_wp2_with fail
    ((with_reducible refine (C2.out w2).mono ?_); rintro e w3 ⟨rfl, hl3⟩)
    have Hb3 : Hid (Below w.heap.size w w3) := Hb2.out.trans (hl3.mono Hb2.out.size)
    replace lv0 := LV.kb3 lv0 hl3 lv0.lt
    replace c0 := lv0.all
    clear hl3 C2 Hb2
    cases K2
    · have Hn : Hid (5 = R) := by show _ = _; rw [← HR.out]; simp [evtE]
      go_wp2_with fail
      go_ret
      exact ⟨ret_i Hn.out, Hb3.out⟩
    · cases D
      · have Hn : Hid (1 = R) := by show _ = _; rw [← HR.out]; simp [evtE]
        go_wp2_with fail
        ((with_reducible refine (C3.out _).mono ?_); rintro e _ ⟨rfl, rfl⟩)
        go_wp2_with fail
        go_ret
        exact ⟨ret_i Hn.out, Hb3.out⟩
      · have Hn : Hid (firstErr [L.idFault x.kind x.text, fldsFault x.flds] = R) := by
          show _ = _
          rw [← HR.out]
          simp only [firstErr, evtE]
          split <;> simp_all
        go_wp2_with fail
        ((with_reducible refine (C3.out _).mono ?_); rintro e _ ⟨rfl, rfl⟩)
        have hb4 : Below w3.heap.size w3 (w3.alloc (.cells #[.func (.func 245) #[] #[.pointer (some ⟨Y, 0, none⟩)], .func (.func 246) #[] #[.pointer (some ⟨Y, 0, none⟩)]] 184)) := (Below.refl _ _).alloc (Nat.le_refl _) _
        have Hb4 : Hid (Below w.heap.size w (w3.alloc (.cells #[.func (.func 245) #[] #[.pointer (some ⟨Y, 0, none⟩)], .func (.func 246) #[] #[.pointer (some ⟨Y, 0, none⟩)]] 184))) := Hb3.out.alloc Hb3.out.size _
        have lvX := LV.new w3 w3.heap.size #[.func (.func 245) #[] #[.pointer (some ⟨Y, 0, none⟩)], .func (.func 246) #[] #[.pointer (some ⟨Y, 0, none⟩)]] 184 rfl
        have lvY := LV.kb3 lv0 hb4 lv0.lt
        clear hb4 c0
        have Hf := Lib.hid (first_any w3.heap.size 2 [⟨245, #[.pointer (some ⟨Y, 0, none⟩)], L.idFault x.kind x.text⟩, ⟨246, #[.pointer (some ⟨Y, 0, none⟩)], fldsFault x.flds⟩] _ rfl lvX (by simp)
          (fun c hc => by
            rcases List.mem_cons.1 hc with rfl | hc
            · exact enters_of Tryz.func245 (by kernel_rfl) rfl
            · rw [List.mem_singleton.1 hc]; exact enters_of Tryz.func246 (by kernel_rfl) rfl)
          (fun c hc w' hw => by
            have hB : Below w.heap.size w w' := Hb4.out.trans (hw.mono Hb4.out.size)
            have lvw := LV.kb3 lvY hw lvY.lt
            rcases List.mem_cons.1 hc with rfl | hc
            · exact ef1_any Y x A _ w' lvw Hok.out.tx (HM.out.below hB)
            · rw [List.mem_singleton.1 hc]; exact ef2_any Y x N A _ w' lvw (HS.out.keepB hB) Hok.out.fs Hok.out.fl (Utf8Tabs_below HT.out hB)))
        go_wp2_with fail
        ((with_reducible refine (Hf.out).mono ?_); rintro e w5 ⟨rfl, hl5⟩)
        go_wp2_with fail
        go_ret
        exact ⟨ret_i Hn.out, Hb4.out.trans (hl5.mono Hb4.out.size)⟩
end Go.Proofs.YteabhkmhogmoiaaGreatDoor

/- What the checks of events and schemas in package event return: within, checkNeeds, CheckSchemas, CheckOne. -/
namespace Go.Proofs.YteabhkmhogmoiaaGreatDoor
open Go.RowKit
theorem loadAtEv {w : World} {X : Nat} {a b c d e f : Value} (h : LV w X #[a, b, c, d, e, f] 56) : (Instr.loadAt 56 (.pointer (some ⟨X, 0, none⟩))).run Tryz.prog w = .ok (.agg #[a, b, c, d, e, f]) w := by
  have c0 := h.all
  go_simp
set_option maxHeartbeats 4000000 in
set_option maxRecDepth 100000 in
theorem checkOne_any (N : Nat → Prop) (A : Option Addr) (c : Nat) (x : Evt) (w : World) (hS : Sl rFld N w A x.flds) (hok : EvtOk x) (hT : Tabs w) (hM : MaxL w) :
    Calls Tryz.prog 152 #[.agg (evCs x A c)] w fun e w' => e = .returned (.int .i64 (evtFault x)) ∧ Below w.heap.size w w' := by
  have hb0 : Below w.heap.size w (w.alloc (.cells (evCs x A c) 56)) := (Below.refl _ _).alloc (Nat.le_refl _) _
  have lv0 := LV.new w w.heap.size (evCs x A c) 56 rfl
  have HS := Lib.hid hS
  have HT := Lib.hid hT
  have HM := Lib.hid hM
  obtain ⟨R, HR⟩ : ∃ R, Hid (evtFault x = R) := ⟨_, Lib.hid rfl⟩
  rw [HR.out]
  obtain ⟨K1, HK1⟩ : ∃ K, Hid (L.isKey x.id = K) := ⟨_, Lib.hid rfl⟩
  obtain ⟨K2, HK2⟩ : ∃ K, Hid (L.isKey x.name = K) := ⟨_, Lib.hid rfl⟩
  obtain ⟨D, HD⟩ : ∃ D, Hid (decide (0 ≤ x.at' ∧ x.at' ≤ 4321439) = D) := ⟨_, Lib.hid rfl⟩
  obtain ⟨F, HF⟩ : ∃ F, Hid (L.idFault x.kind x.text = F) := ⟨_, Lib.hid rfl⟩
  obtain ⟨G, HG⟩ : ∃ G, Hid (fldsFault x.flds = G) := ⟨_, Lib.hid rfl⟩
  unfold evtFault at HR
  rw [HK1.out, HK2.out, HD.out, HF.out, HG.out] at HR
  have h1 := hok.id
  have h2 := hok.nm
  have h3 := hok.tx
  have C1 : Hid (∀ w, Calls Tryz.prog 172 #[.string x.id] w fun e w' => e = .returned (.bool K1) ∧ w = w') := fun w => HK1.out ▸ isKey_any x.id w (by omega)
  have C2 : Hid (∀ w, Calls Tryz.prog 172 #[.string x.name] w fun e w' => e = .returned (.bool K2) ∧ w = w') := fun w => HK2.out ▸ isKey_any x.name w (by omega)
  have C3 : Hid (∀ w, Calls Tryz.prog 247 #[.int .i64 x.at', .int .i64 0, .int .i64 4321439] w fun e w' => e = .returned (.bool D) ∧ w = w') := fun w => HD.out ▸ ewithin_any x.at' 0 4321439 w
  have C4 : Hid (∀ w, MaxL w → Calls Tryz.prog 73 #[.agg #[.int .i64 x.kind, .string x.text]] w fun e w' => e = .returned (.int .i64 F) ∧ Below w.heap.size w w') := fun w h => HF.out ▸ checkId_any x.kind x.text w (by omega) h
  have C5 : Hid (∀ w', Below w.heap.size w w' → Calls Tryz.prog 215 #[.slice A x.flds.length c] w' fun e w'' => e = .returned (.int .i64 G) ∧ Below w'.heap.size w' w'') := fun w' h => HG.out ▸ checkFields_any N A x.flds c w' (hS.keepB h) hok.fs (by have := hok.fl; omega) (Utf8Tabs_below hT h)
  clear HK1 HK2 HD HF HG hS hok hT hM h1 h2 h3
  have Hb0 := Lib.hid hb0
  go_enter Tryz.func152, Tryz.ntmps152
  go_upto_region 1 with fail
  generalize w.alloc (.cells (evCs x A c) 56) = w1 at *
  obtain ⟨Y, hY⟩ : ∃ Y, Y = w.heap.size := ⟨_, rfl⟩
  rw [← hY] at lv0 ⊢
  have c0 : w1.cell? ⟨Y, 0, none⟩ = some (.string x.id) := lv0.cell 0 _ rfl
  have c1 : w1.cell? ⟨Y, 1, none⟩ = some (.string x.name) := lv0.cell 1 _ rfl
  have c2 : w1.cell? ⟨Y, 2, none⟩ = some (.int .i64 x.at') := lv0.cell 2 _ rfl
  have c3 : w1.cell? ⟨Y, 3, none⟩ = some (.int .i64 x.kind) := lv0.cell 3 _ rfl
  have c4 : w1.cell? ⟨Y, 4, none⟩ = some (.string x.text) := lv0.cell 4 _ rfl
  clear hb0 hY
  cases K1
  · have Hn : Hid (5 = R) := by show _ = _; rw [← HR.out]; simp [evtE]
    go_wp2_with fail
    ((with_reducible refine (C1.out _).mono ?_); rintro e _ ⟨rfl, rfl⟩)
    go_wp2_with fail
    go_ret
    exact ⟨ret_i Hn.out, Hb0.out⟩
  · cases K2
    · have Hn : Hid (5 = R) := by show _ = _; rw [← HR.out]; simp [evtE]
      go_wp2_with fail
      ((with_reducible refine (C1.out _).mono ?_); rintro e _ ⟨rfl, rfl⟩)
      go_wp2_with fail
      ((with_reducible refine (C2.out _).mono ?_); rintro e _ ⟨rfl, rfl⟩)
      go_wp2_with fail
      go_ret
      exact ⟨ret_i Hn.out, Hb0.out⟩
    · cases D
      · have Hn : Hid (1 = R) := by show _ = _; rw [← HR.out]; simp [evtE]
        go_wp2_with fail
        ((with_reducible refine (C1.out _).mono ?_); rintro e _ ⟨rfl, rfl⟩)
        go_wp2_with fail
        ((with_reducible refine (C2.out _).mono ?_); rintro e _ ⟨rfl, rfl⟩)
        go_wp2_with fail
        ((with_reducible refine (C3.out _).mono ?_); rintro e _ ⟨rfl, rfl⟩)
        go_wp2_with fail
        go_ret
        exact ⟨ret_i Hn.out, Hb0.out⟩
      · have Hn : Hid ((if F ≠ 0 then F else G) = R) := by show _ = _; rw [← HR.out]; simp [evtE]
        go_wp2_with fail
        ((with_reducible refine (C1.out _).mono ?_); rintro e _ ⟨rfl, rfl⟩)
        go_wp2_with fail
        ((with_reducible refine (C2.out _).mono ?_); rintro e _ ⟨rfl, rfl⟩)
        go_wp2_with fail
        ((with_reducible refine (C3.out _).mono ?_); rintro e _ ⟨rfl, rfl⟩)
        go_wp2_with fail
        ((with_reducible refine (C4.out w1 (HM.out.below Hb0.out)).mono ?_); rintro e w2 ⟨rfl, hl2⟩)
        have lv2 := LV.kb3 lv0 hl2 lv0.lt
        have Hb2 : Hid (Below w.heap.size w w2) := Hb0.out.trans (hl2.mono Hb0.out.size)
        clear c0 c1 c2 c3 c4 lv0 hl2
        by_cases hF : F = 0
        · have Hn2 := Lib.hid (step_go Hn.out hF)
          subst hF
          have c5 : w2.cell? ⟨Y, 5, none⟩ = some (.slice A x.flds.length c) := lv2.cell 5 _ rfl
          go_wp2_with fail
          ((with_reducible refine (C5.out w2 Hb2.out).mono ?_); rintro e w3 ⟨rfl, hl3⟩)
          go_wp2_with fail
          go_ret
          exact ⟨ret_i Hn2.out, Hb2.out.trans (hl3.mono Hb2.out.size)⟩
        · have Hn2 := Lib.hid (step_no Hn.out hF)
          have hF' : (F != 0) = true := by simpa using hF
          go_wp2_with fail
          go_ret
          exact ⟨ret_i Hn2.out, Hb2.out⟩
end Go.Proofs.YteabhkmhogmoiaaGreatDoor

/- What the generator Event makes. -/
namespace Go.Proofs.YteabhkmhogmoiaaGreatDoor
open Go.RowKit
def ENames (w : World) : Prop := ∀ k, k < 4 → ∃ s : ByteArray, s.size ≤ 10 ∧ w.cell? ⟨2, k, none⟩ = some (.string s)
theorem ENames.lt {w : World} (h : ENames w) : 2 < w.heap.size := by
  obtain ⟨s, _, h⟩ := h 0 (by omega)
  exact World.block_lt_of_cell? w _ h
theorem ENames.keep {b : Nat} {w w' : World} (h : ENames w) (k : SK b w w') (hb : 2 ≠ b) : ENames w' := fun i hi => by
  obtain ⟨s, hs, hc⟩ := h i hi
  exact ⟨s, hs, (World.cell?_of_block (k.block _ h.lt hb)).trans hc⟩
structure EvSm (x : Evt) : Prop where
  id : x.id.size ≤ 1000
  nm : x.name.size ≤ 1000
  tx : x.text.size ≤ 10000
  fl : x.flds.length ≤ 40
  fs : ∀ f ∈ x.flds, f.tiny
theorem EvSm.ok {x : Evt} (h : EvSm x) : EvtOk x := ⟨Nat.le_trans h.id (by decide), Nat.le_trans h.nm (by decide), Nat.le_trans h.tx (by decide), Nat.le_trans h.fl (by decide), fun f hf => by
  obtain ⟨h1, h2⟩ := h.fs f hf
  exact ⟨by omega, by omega⟩⟩
def DrawsEvt (b m : Nat) (w : World) (e : Ending) (w' : World) : Prop := ∃ (x : Evt) (A : Option Addr) (c : Nat), e = .returned (.agg (evCs x A c)) ∧ EvSm x ∧ St b m w w' [.sl rFld A x.flds]
abbrev ezCs : Array Value := #[.string ⟨#[]⟩, .string ⟨#[]⟩, .int .i64 0, .int .i64 0, .string ⟨#[]⟩, .slice none 0 0]
theorem loadEv {w : World} {X : Nat} {a b c d e f : Value} (h : LV w X #[a, b, c, d, e, f] 56) : (loadVar 56 ⟨X, 0, none⟩).run Tryz.prog w = .ok (.agg #[a, b, c, d, e, f]) w := by
  have c0 := h.all
  go_simp
def evFact (b B : Nat) (id : ByteArray) (at' : Int) (i : Nat) (v : Value) (w : World) : Prop :=
  match i with
  | 2 => IsI 0 3 v
  | 3 => ∃ k : Nat, k < 4 ∧ v = .pointer (some ⟨2, k, none⟩)
  | 4 => IsS 10 v
  | 7 => IsI 0 3 v
  | 8 => ∃ k : Nat, k < 4 ∧ v = .pointer (some ⟨1, k * 2, none⟩)
  | 9 => ∃ (k : Int) (t : ByteArray), v = .agg #[.int .i64 k, .string t] ∧ t.size ≤ 100
  | 11 => ∃ xs : List Fld, Own rFld (Off b) B 204 w v xs ∧ xs.length ≤ 7 ∧ ∀ f ∈ xs, f.tiny
  | 12 => ∃ (nm : ByteArray) (k : Int) (t : ByteArray) (xs : List Fld) (A : Option Addr) (c : Nat), v = .agg (evCs ⟨id, nm, at', k, t, xs⟩ A c) ∧ nm.size ≤ 10 ∧ t.size ≤ 100 ∧ Own rFld (Off b) B 204 w (.slice A xs.length c) xs ∧ xs.length ≤ 7 ∧ ∀ f ∈ xs, f.tiny
  | 13 => IsNew B ezCs 56 v w
  | _ => True
end Go.Proofs.YteabhkmhogmoiaaGreatDoor
