/- Several texts in one: MapId, Of, Named, MapGR, LogOut, OwnBase, CloneW, LogRRet, GenScm. -/
import Derived.Test.YtmlpkejeglpciaaGreatDoorPkAK
import Derived.Test.YtmlpkejeglpciaaGreatDoorPkAT
import Derived.WideKeyRuns
import Derived.Test.YtmlpkejeglpciaaGreatDoorPkAN
import Derived.Test.YtmlpkejeglpciaaGreatDoorPkAI
import Derived.Test.YtmlpkejeglpciaaGreatDoorPkAP
import Derived.Test.YtmlpkejeglpciaaGreatDoorPkAQ
import Derived.Test.YtmlpkejeglpciaaGreatDoorPkAG
import Derived.Test.YtmlpkejeglpciaaGreatDoorPkAE
import Derived.Test.YtmlpkejeglpciaaGreatDoorShelf
import Derived.Test.YtmlpkejeglpciaaGreatDoorPkAB
import Derived.Deep.DeepCutAuto
/- A map of the call's own, keyed by ids, that holds true for those that were put: a piece of memory. -/
namespace Go.Proofs.YtmlpkejeglpciaaGreatDoor
open Go Go.RowKit Go.MapKept
section
variable {ops : Array Oper} {rest : List Oper} {o : Oper} {a : Act} {Q : Exit → Act → World → Prop}
end
end Go.Proofs.YtmlpkejeglpciaaGreatDoor

/- What event.Of returns. -/
namespace Go.Proofs.YtmlpkejeglpciaaGreatDoor
open Go Go.RowKit
theorem Mem.noFl {w0 w : World} {cs : List Chunk} (S : Mem w0 w cs) : Mem w0 w (cs ++ [.flds []]) := S.call (Below.refl _ _) (.flds []) (fun q hq => by cases hq) (fun k e => by cases e)
theorem Mem.addFl {w0 w : World} {cs : List Chunk} (S : Mem w0 w cs) (i j : Nat) {qs : List EQ} {A : Option Addr} {fs : List Fld} (hi : cs[i]? = some (.flds qs)) (hj : cs[j]? = some (.sl rFld A fs)) (x : EQ) (hA : x.A = A) (hf : x.e.flds = fs) : Mem w0 w (cs.set i (.flds (qs ++ [x]))) := by
  refine S.turn i hi (.flds (qs ++ [x])) rfl (fun q hq => ?_)
  rcases List.mem_append.1 hq with hq | hq
  · exact S.fl i hi q hq
  · rw [List.mem_singleton.1 hq, hA, hf]; exact S.slc j hj
end Go.Proofs.YtmlpkejeglpciaaGreatDoor

/- What event.named, event.copyAll and event.Named return. -/
namespace Go.Proofs.YtmlpkejeglpciaaGreatDoor
open Go Go.RowKit
theorem map_set_same {l : List EQ} {k : Nat} {q : EQ} (h : l[k]? = some q) (A : Option Addr) (c : Nat) : (l.set k ⟨q.e, A, c⟩).map EQ.e = l.map EQ.e := by
  rw [List.map_set]
  obtain ⟨h1, h2⟩ := List.getElem?_eq_some_iff.1 h
  have : (l.map EQ.e)[k]'(by simpa using h1) = q.e := by simp [h2]
  rw [← this, List.set_getElem_self]
structure CpAt (qs zs : List EQ) (j : Nat) : Prop where
  m : zs.map EQ.e = qs.map EQ.e
  d : zs.drop j = qs.drop j
theorem CpAt.len {qs zs : List EQ} {j : Nat} (h : CpAt qs zs j) : zs.length = qs.length := by have := congrArg List.length h.m; simpa using this
theorem CpAt.get {qs zs : List EQ} {j : Nat} (h : CpAt qs zs j) : zs[j]? = qs[j]? := by
  have := congrArg (fun l : List EQ => l[0]?) h.d
  simpa using this
theorem CpAt.put {qs zs : List EQ} {j : Nat} {q : EQ} (h : CpAt qs zs j) (hq : zs[j]? = some q) (A : Option Addr) (c : Nat) : CpAt qs (zs.set j ⟨q.e, A, c⟩) (j + 1) := by
  refine ⟨by rw [map_set_same hq]; exact h.m, ?_⟩
  rw [List.drop_set_of_lt (by omega)]
  have := congrArg (List.drop 1) h.d
  rw [List.drop_drop, List.drop_drop] at this
  exact this
theorem take_set_snoc {α : Type} {l : List α} {j : Nat} {x : α} (hj : j < l.length) : (l.set j x).take (j + 1) = l.take j ++ [x] := by
  rw [take_snoc (x := x) (List.getElem?_set_self hj), List.take_set, List.set_eq_of_length_le (by simp; omega)]
def GivesCp (qs : List EQ) (w : World) (e : Ending) (w' : World) : Prop := ∃ v zs, e = .returned v ∧ zs.map EQ.e = qs.map EQ.e ∧ Mem w w' [.own rEQ w.heap.size 47 v zs, .flds zs]
set_option maxHeartbeats 8000000 in
set_option maxRecDepth 100000 in
theorem copyAll_any (A : Option Addr) (qs : List EQ) (c : Nat) (w : World) (hL : Sl rEQ (fun _ => False) w A qs) (hF : FldsOk (fun _ => False) w qs) (hl : qs.length ≤ 1000) (hc : A = none → c = 0) (hfl : ∀ q ∈ qs, q.e.flds.length ≤ 1000) :
    Calls Tryz.prog 65 #[.slice A qs.length c] w (GivesCp qs w) := by
  have Hcl := Lib.hid (cloneE_any A qs c w hL hl hc)
  have HF := Lib.hid (fun (w' : World) (h : Below w.heap.size w w') (q : EQ) (hq : q ∈ qs) => (hF q hq).keepB h)
  have Hfl := Lib.hid hfl
  obtain ⟨n, hn⟩ : ∃ n, qs.length = n := ⟨_, rfl⟩
  have Hn := Lib.hid hn
  rw [hn] at Hcl hl ⊢
  clear hL hF hc hfl hn
  go_enter Tryz.func65, Tryz.ntmps65
  go_wp2_with fail
  refine (Hcl.out).mono ?_
  rintro e w1 ⟨v, rfl, S⟩
  clear Hcl
  by_cases h0 : n = 0
  · subst h0
    obtain rfl : qs = [] := List.length_eq_zero_iff.1 Hn.out
    obtain ⟨A1, c1, rfl⟩ := (S.ow 0 rfl).len
    have HS := Lib.hid S.noFl
    rw [show ([] : List EQ).length = 0 from rfl] at HS ⊢
    clear S
    go_wp2_with fail
    go_loopw [10] (fun i wr => i = .int .i64 0 ∧ w1 = wr) (fun _ _ => 0)
    case atStart => exact ⟨rfl, rfl⟩
    case round =>
      obtain ⟨rfl, rfl⟩ := hrel
      go_wp2_with fail
      go_ret
      exact ⟨_, [], rfl, rfl, HS.out⟩
  · obtain ⟨g, cap, rfl, hcap⟩ := (S.ow 0 rfl).form (by have := Hn.out; omega)
    rw [Hn.out] at S ⊢
    have S0 : Mem w w1 [.own rEQ w.heap.size 47 (.slice (some ⟨g, 0, none⟩) n cap) qs, .flds (qs.take 0)] := S.noFl
    clear S
    go_wp2_with fail
    go_loopw [10] (fun i wr => ∃ (j : Nat) (zs : List EQ), j ≤ n ∧ i = .int .i64 j ∧ Hid (CpAt qs zs j) ∧ Mem w wr [.own rEQ w.heap.size 47 (.slice (some ⟨g, 0, none⟩) n cap) zs, .flds (zs.take j)]) (fun i _ => n - (intOf i).toNat)
    case atStart => exact ⟨0, qs, Nat.zero_le _, rfl, ⟨rfl, rfl⟩, S0⟩
    case round =>
      clear S0
      obtain ⟨j, zs, hj, rfl, HC, S⟩ := hrel
      have hzl : Hid (n = zs.length) := by show _ = _; rw [HC.out.len]; exact Hn.out.symm
      by_cases hlt : j < n
      · obtain ⟨q, hq⟩ : ∃ q, zs[j]? = some q := ⟨_, List.getElem?_eq_getElem (by have := hzl.out; omega)⟩
        have hqm : q ∈ qs := List.mem_of_getElem? (HC.out.get ▸ hq)
        have Hq := Lib.hid hq
        obtain ⟨⟨d0, d1, d2, d3, d4, d5⟩, hfr⟩ := (S.ow 0 rfl).eqAt hzl.out j q hq
        have hqf := Hfl.out q hqm
        clear hq
        go_upto_region 5 with fail
        clear d0 d1 d2 d3 d4 d5 hfr
        obtain ⟨Y, hY⟩ : ∃ Y, Y = wr.heap.size := ⟨_, rfl⟩
        replace S := S.newAt (evCs q.e q.A q.c) 47 Y hY
        replace S : Mem w (wr.alloc (.cells (evCs q.e q.A q.c) 47)) [.own rEQ w.heap.size 47 (.slice (some ⟨g, 0, none⟩) n cap) zs, .flds (zs.take j), .loc Y (evCs q.e q.A q.c) 47] := S
        rw [← hY]
        clear hY
        generalize wr.alloc (.cells (evCs q.e q.A q.c) 47) = w3 at *
        have c0 := (S.lv 2 rfl).all
        have Hcp := Lib.hid (copyEv_any q.e q.A q.c w3 (HF.out w3 S.b q hqm) hqf)
        have HS0 := Lib.hid S
        clear S
        go_wp2_with fail
        refine (Hcp.out).mono ?_
        rintro e w4 ⟨A2, c2, rfl, T⟩
        have HS1 := Lib.hid (HS0.out.join T)
        clear Hcp HS0 T c0
        obtain ⟨⟨d0, d1, d2, d3, d4, d5⟩, f⟩ := (HS1.out.ow 0 rfl).eqAt hzl.out j q Hq.out
        have f0 := f 0 (by decide)
        have f1 := f 1 (by decide)
        have f2 := f 2 (by decide)
        have f3 := f 3 (by decide)
        have f4 := f 4 (by decide)
        have f5 := f 5 (by decide)
        rw [Nat.add_zero] at f0
        clear f
        have HS2 := Lib.hid (HS1.out.putEQ 0 rfl hzl.out j q ⟨q.e, A2, c2⟩ Hq.out)
        clear HS1
        go_upto_region 6 with fail
        have S3 : Mem w _ [.own rEQ w.heap.size 47 (.slice (some ⟨g, 0, none⟩) n cap) (zs.set j ⟨q.e, A2, c2⟩), .flds (zs.take j), .loc Y (evCs q.e q.A q.c) 47, .sl rFld A2 q.e.flds] := HS2.out
        have S4 : Mem w _ [.own rEQ w.heap.size 47 (.slice (some ⟨g, 0, none⟩) n cap) (zs.set j ⟨q.e, A2, c2⟩), .flds (zs.take j ++ [⟨q.e, A2, c2⟩]), .loc Y (evCs q.e q.A q.c) 47, .sl rFld A2 q.e.flds] := S3.addFl 1 3 rfl rfl ⟨q.e, A2, c2⟩ rfl rfl
        rw [← take_set_snoc (by have := hzl.out; omega)] at S4
        have HC2 := Lib.hid (HC.out.put Hq.out A2 c2)
        have HS5 := Lib.hid ((S4.del 3).del 2)
        clear d0 d1 d2 d3 d4 d5 f0 f1 f2 f3 f4 f5 HS2 S3 S4 HC Hq
        go_wp2_with fail
        go_roundw
        case rel => exact ⟨j + 1, _, by omega, by go_num, HC2, HS5.out⟩
        case measure => simp [intOf]; omega
      · have hm := Lib.hid HC.out.m
        have hzt : zs.take j = zs := List.take_of_length_le (by have := hzl.out; omega)
        rw [hzt] at S
        have HS := Lib.hid S
        clear S hzt
        go_wp2_with fail
        go_ret
        exact ⟨_, zs, rfl, hm.out, HS.out⟩
end Go.Proofs.YtmlpkejeglpciaaGreatDoor

/- Loops over maps: how many entries are left, read off the world. -/
namespace Go.Proofs.YtmlpkejeglpciaaGreatDoor
open Go Go.RowKit Go.MapKept
def iterLeft (es : Array MapEntry) (Y : Nat) (w : World) : Nat := match w.heap[Y]? with
  | some (.mapIter _ _ seen _) => (leftOf es seen).size
  | _ => 0
theorem RngOk.size {κ : Type} {K : KeyL κ} {es : Array MapEntry} {clock : Nat} {seen : Array Nat} {L done left : List (κ × Value)} (h : RngOk K es clock seen L done left) : (leftOf es seen).size = left.length := by
  have := congrArg List.length h.lft
  rw [List.length_map, List.length_map, Array.length_toList] at this
  exact this
theorem Mem.iterSize {κ : Type} {K : KeyL κ} {w0 w : World} {cs : List Chunk} (S : Mem w0 w cs) (j : Nat) {R X clock c0 : Nat} {seen : Array Nat} (hj : cs[j]? = some (.iter R X clock seen c0)) {es : Array MapEntry} {L done left : List (κ × Value)} (hr : RngOk K es clock seen L done left) : iterLeft es R w = left.length := by
  have hR : w.heap[R]? = some (.mapIter (some X) clock seen c0) := S.ok _ (List.mem_of_getElem? hj)
  unfold iterLeft
  rw [hR]
  exact hr.size
end Go.Proofs.YtmlpkejeglpciaaGreatDoor

/- What a log tells: (*Log).Events and (*Log).Retracted. -/
namespace Go.Proofs.YtmlpkejeglpciaaGreatDoor
open Go Go.RowKit
set_option maxHeartbeats 4000000 in
set_option maxRecDepth 100000 in
theorem events_log (X : Nat) (K : Option Addr) (n ck : Nat) (A : Option Addr) (c AT GN : Nat) (qs : List EQ) (w : World) (hX : LV w X (logCs K n ck (.slice A qs.length c) AT GN) 83) (hL : Sl rEQ (fun _ => False) w A qs) (hF : FldsOk (fun _ => False) w qs) (hl : qs.length ≤ 1000) (hc : A = none → c = 0) (hfl : ∀ q ∈ qs, q.e.flds.length ≤ 1000) :
    Calls Tryz.prog 19 #[.pointer (some ⟨X, 0, none⟩)] w (GivesCp qs w) := by
  have Hcl := Lib.hid (copyAll_any A qs c w hL hF hl hc hfl)
  have x0 := hX.all
  clear hX hL hF hc hfl
  go_enter Tryz.func19, Tryz.ntmps19
  go_wp2_with fail
  refine (Hcl.out).mono ?_
  rintro e w2 ⟨v, zs, rfl, hz, S⟩
  have Hz := Lib.hid hz
  have HS := Lib.hid S
  clear hz S Hcl
  go_wp2_with fail
  go_ret
  exact ⟨v, zs, rfl, Hz.out, HS.out⟩
def GivesWs (xs : List ByteArray) (w : World) (e : Ending) (w' : World) : Prop := ∃ A c, e = .returned (.slice A xs.length c) ∧ Mem w w' [.sl rStr A xs]
set_option maxHeartbeats 4000000 in
set_option maxRecDepth 100000 in
theorem retracted_log (X : Nat) (K : Option Addr) (n ck : Nat) (v : Value) (AT GN : Nat) (Lg : List (ByteArray × Value)) (w : World) (hX : LV w X (logCs K n ck v AT GN) 83) (hM : MapG keyStr w GN Lg) (hl : Lg.length ≤ 1000) :
    Calls Tryz.prog 22 #[.pointer (some ⟨X, 0, none⟩)] w (GivesWs (srtW (Lg.map Prod.fst)) w) := by
  obtain ⟨es, clock, hb, hE⟩ := hM
  have x0 := hX.all
  have HE := Lib.hid hE
  have Hbb := Lib.hid (fun w' (h : Below w.heap.size w w') => (h.block GN (Array.getElem?_eq_some_iff.1 hb).1).trans hb)
  obtain ⟨hrg, S1⟩ := (Mem.start w).rangeO hb (T := 81) (k := 9) (e := 4) (by kernel_rfl)
  obtain ⟨Zr, hZr⟩ : ∃ Zr, Zr = w.heap.size := ⟨_, rfl⟩
  obtain ⟨Bs, hBs⟩ : ∃ Bs, Bs = w.heap.size := ⟨_, rfl⟩
  rw [← hZr] at hrg S1
  have S5 : Mem w (w.alloc (.mapIter (some GN) clock #[] clock)) [.own rStr Bs 9 (.slice none 0 0) [], .iter Zr GN clock #[] clock] := (S1.nil rStr Bs 9).front
  clear hX hb hE S1 hZr
  have HBs := Lib.hid hBs
  clear hBs
  go_enter Tryz.func22, Tryz.ntmps22
  go_wp2_with fail
  clear hrg x0
  generalize w.alloc (.mapIter (some GN) clock #[] clock) = w4 at *
  have HR0 : Hid (RngOk keyStr es clock #[] Lg [] Lg) := RngOk.start HE.out
  go_loopw [3] (fun v wr => ∃ (seen : Array Nat) (dq left : List (ByteArray × Value)) (xs : List ByteArray) (A8 : Option Addr) (c8 : Nat), v = .slice A8 xs.length c8 ∧ Hid (RngOk keyStr es clock seen Lg dq left) ∧ Hid (xs = dq.map Prod.fst) ∧ Mem w wr [.own rStr Bs 9 (.slice A8 xs.length c8) xs, .iter Zr GN clock seen clock]) (fun _ wr => iterLeft es Zr wr)
  case atStart => exact ⟨#[], [], Lg, [], none, 0, rfl, HR0, rfl, S5⟩
  case round =>
    clear S5 HR0
    obtain ⟨seen, dq, left, xs, A8, c8, rfl, HRg, Hxs, S3⟩ := hrel
    have hsz3 : Hid (iterLeft es Zr wr = left.length) := S3.iterSize 1 rfl HRg.out
    have hxl : xs.length ≤ 900000 := by
      have h1 := HRg.out.perm.length_eq
      have h2 := congrArg List.length Hxs.out
      rw [List.length_map] at h2
      rw [List.length_append] at h1
      omega
    rcases S3.nextO 1 (Hbb.out wr S3.b) rfl (Nat.le_refl _) HRg.out with ⟨hl0, hp0, hnx⟩ | ⟨pq, left', seen', w5, hpm, hll, hrg, hnx, hen, S5⟩
    · have S6 : Mem w wr [.own rStr Bs 9 (.slice A8 xs.length c8) xs] := S3.del 1
      have Hp0 : Hid (srtW xs = srtW (Lg.map Prod.fst)) := srtW_eq (by rw [Hxs.out]; exact hp0.map _)
      have Hs9 := Lib.hid (sortOwnW S6 0 rfl (by omega))
      clear hp0 hl0 S3 S6 hsz3
      go_wp2_with fail
      refine (Hs9.out).mono ?_
      rintro e w6 ⟨rfl, S7⟩
      rw [Hp0.out] at S7
      obtain ⟨A9, c9, e9, S8⟩ := S7.frz 0 rfl
      have HS8 := Lib.hid S8
      have He9 := Lib.hid e9
      clear Hs9 S7 S8 e9
      go_wp2_with fail
      go_ret
      exact ⟨A9, c9, congrArg Ending.returned He9.out, HS8.out⟩
    · obtain ⟨nm, val⟩ := pq
      simp only [show keyStr.kv nm = Value.string nm from rfl] at hnx hen
      have HRg2 := Lib.hid hrg
      have Hsz2 : Hid (iterLeft es Zr w5 = left'.length) := S5.iterSize 1 rfl hrg
      have hsz := S5.b.size
      have Hll := Lib.hid hll
      have HS5 : Hid (Mem w w5 [.own rStr Bs 9 (.slice A8 xs.length c8) xs, .iter Zr GN clock seen' clock]) := S5
      have HB5 : Hid (Bs ≤ w5.heap.size) := by show _ ≤ _; rw [HBs.out]; exact hsz
      clear hrg hpm hll S3 S5 hsz
      go_wp2_with (at_builtin; refine HS5.out.app 0 rfl tyStrs rfl _ _ rfl nm 1 rfl rfl rfl (oneStrs nm) HB5.out (by omega) (by decide) ?_; intro v' w7 S7)
      obtain ⟨A7, c7, rfl⟩ := (S7.ow 0 rfl).len
      have HS7 : Hid (Mem w w7 [.own rStr Bs 9 (.slice A7 (xs ++ [nm]).length c7) (xs ++ [nm]), .iter Zr GN clock seen' clock]) := S7
      have Hx2 : Hid (xs ++ [nm] = (dq ++ [(nm, val)]).map Prod.fst) := by show _ = _; rw [List.map_append, ← Hxs.out]; rfl
      obtain ⟨ys, hys⟩ : ∃ ys, xs ++ [nm] = ys := ⟨_, rfl⟩
      rw [hys] at HS7 Hx2 ⊢
      have Hsz7 : Hid (iterLeft es Zr w7 = left'.length) := HS7.out.iterSize 1 rfl HRg2.out
      clear S7 hys HS5
      first
        | exact ⟨⟨seen', dq ++ [(nm, val)], left', ys, A7, c7, rfl, HRg2, Hx2, HS7.out⟩, by rw [Hsz7.out, hsz3.out]; have := Hll.out; omega⟩
        | (go_wp2_with fail
           go_roundw
           case rel => exact ⟨seen', dq ++ [(nm, val)], left', ys, A7, c7, rfl, HRg2, Hx2, HS7.out⟩
           case measure => rw [Hsz7.out, hsz3.out]; have := Hll.out; omega)
end Go.Proofs.YtmlpkejeglpciaaGreatDoor

/- A slice of the call's own, told from an older world. -/
namespace Go.Proofs.YtmlpkejeglpciaaGreatDoor
open Go Go.RowKit
theorem Mem.ownBase {α : Type} {r : Rep α} {f : α → List Value} (hf : r.Flat f) {w0 w : World} {cs : List Chunk} (S : Mem w0 w cs) (i : Nat) {B B' E : Nat} {v : Value} {xs : List α} (hi : cs[i]? = some (.own r B E v xs)) (hB : B' ≤ B) : Mem w0 w (cs.set i (.own r B' E v xs)) :=
  S.upd i hi (.own r B' E v xs) ⟨Nat.le_refl _, fun _ _ _ => rfl⟩ S.b (fun _ e => .inl e) (((S.ow i hi).flatM hf).base hB)
end Go.Proofs.YtmlpkejeglpciaaGreatDoor

/- What slices.Clone makes of words. -/
namespace Go.Proofs.YtmlpkejeglpciaaGreatDoor
open Go Go.RowKit
theorem tyStrC : STy 37 9 rStr.size 16 (.string ⟨#[]⟩) := ⟨Tryz.underlying37, by kernel_rfl, rfl, by decide⟩
theorem oneStrC (s : ByteArray) : ∀ u ∈ [Value.string s], u.oneCell' = true := fun u hu => by
  rw [List.mem_singleton.1 hu]; rfl
set_option maxHeartbeats 4000000 in
set_option maxRecDepth 100000 in
theorem cloneW_any (A : Option Addr) (l : List ByteArray) (c : Nat) (w : World) (hL : Sl rStr (fun _ => False) w A l) (hl : l.length ≤ 1000) :
    Calls Tryz.prog 71 #[.slice A l.length c] w fun e w' => ∃ A' c', e = .returned (.slice A' l.length c') ∧ Mem w w' [.own rStr w.heap.size 9 (.slice A' l.length c') l] := by
  have he : ∀ (a : Option Addr) (n c : Nat) (w : World), (binOp .eql 37 (.slice a n c) (.slice none 0 0)).run Tryz.prog w = .ok (.bool a.isNone) w := fun a n c w => Lib.run_eql_slice_nil w _ _ a n c 0 0 tyStrC.under
  cases A with
  | none =>
    obtain rfl := Sl.nilOf hL
    have S : Mem w w [.own rStr w.heap.size 9 (.slice none 0 0) []] := (Mem.start w).nil rStr w.heap.size 9
    go_enter Tryz.func71, Tryz.ntmps71
    go_wp2_with fail
    go_ret
    exact ⟨none, 0, rfl, S⟩
  | some ad =>
    have S := (Mem.start w).newAt #[] 9 w.heap.size rfl
    have S1 : Mem w (w.alloc (.cells #[] 9)) [.own rStr w.heap.size 9 (.slice (some ⟨w.heap.size, 0, none⟩) 0 0) []] := S.room (r := rStr) 0 rfl rfl (by decide) rfl
    have Hc := Lib.hid (Sl.flatCells flatStr (fun _ => rfl) (hL.keepB S1.b))
    have hsz := S1.b.size
    have HS := Lib.hid S1
    have Hl := Lib.hid hl
    clear S S1 hL hl
    go_enter Tryz.func71, Tryz.ntmps71
    go_wp2_with (at_builtin; refine HS.out.appN flatStr 0 rfl tyStrC rfl _ _ rfl l l.length c rfl rfl ad rfl Hc.out (fun y _ => oneStrC y) (fun _ => rfl) hsz (by simp only [List.length_nil]; have := Hl.out; omega) (by decide) ?_; intro v5 w5 S5)
    obtain ⟨A5, c5, e5⟩ := (S5.ow 0 rfl).len
    subst e5
    go_ret
    exact ⟨A5, c5, rfl, S5⟩
end Go.Proofs.YtmlpkejeglpciaaGreatDoor

/- handref2.(*Log).Retract: an id is retracted, and its event goes; and (*Log).Retracted. -/
namespace Go.Proofs.YtmlpkejeglpciaaGreatDoor
open Go Go.RowKit
def GivesRetR (Y : Nat) (K : Option Addr) (n ck : Nat) (v : Value) (B : Nat) (ps fs : List EQ) (g : Value) (B2 : Nat) (gn : List ByteArray) (s : ByteArray) (w0 : World) (ch : List Chunk) (e : Ending) (w' : World) : Prop :=
  ∃ (ok : Bool) (er : Int), e = .returned (.tuple #[.bool ok, .int .i64 er]) ∧ RetTo (ps.map EQ.e) gn s (L.isKey s) ok er ∧
    ((L.isKey s = false ∧ Mem w0 w' (rlgP Y K n ck v B ps fs g B2 gn ch)) ∨
     (L.isKey s = true ∧ s ∈ gn ∧ Mem w0 w' (rlgP Y K n ck v B ps fs g B2 gn ch)) ∨
     (L.isKey s = true ∧ s ∉ gn ∧ (∀ p ∈ ps, p.e.id ≠ s) ∧ ∃ g' : Value, Mem w0 w' (rlgP Y K n ck v B ps fs g' B2 (gn ++ [s]) ch)) ∨
     (L.isKey s = true ∧ s ∉ gn ∧ ∃ (k : Nat) (p : EQ) (v' g' : Value), ps[k]? = some p ∧ p.e.id = s ∧ Mem w0 w' (rlgP Y K n ck v' B (ps.take k ++ ps.drop (k + 1)) fs g' B2 (gn ++ [s]) ch)))
set_option maxHeartbeats 8000000 in
set_option maxRecDepth 100000 in
theorem ret_rlg {w0 w : World} (ch : List Chunk) (Y : Nat) (K : Option Addr) (n ck : Nat) (v : Value) (B : Nat) (ps fs : List EQ) (g : Value) (B2 : Nat) (gn : List ByteArray) (s : ByteArray) (S : Mem w0 w (rlgP Y K n ck v B ps fs g B2 gn ch))
    (hs : s.size ≤ 1000) (hl : ps.length ≤ 900) (hgl : gn.length ≤ 900) (hB : B ≤ Y) (hB2 : B2 ≤ Y) :
    Calls Tryz.prog 47 #[.pointer (some ⟨Y, 0, none⟩), .string s] w (GivesRetR Y K n ck v B ps fs g B2 gn s w0 ch) := by
  have Hk := Lib.hid (Key_any s w (Nat.le_trans hs (by decide)))
  have hSg := S.ow 3 rfl
  have Hct : Hid (∀ w', Below w.heap.size w w' → Calls Tryz.prog 58 #[g, .string s] w' fun e w'' => e = .returned (.bool (hasId gn s)) ∧ w' = w'') := fun w' h => contG_any hSg s (Nat.le_trans hgl (by decide)) w' h
  obtain ⟨A0, c0, rfl⟩ := (S.ow 1 rfl).len
  obtain ⟨A2, c2, rfl⟩ := (S.ow 3 rfl).len
  have hnil : A0 = none → c0 = 0 := fun e => by
    rcases (S.ow 1 rfl).shape2 with ⟨e2, h0⟩ | ⟨g9, cap, e2, _⟩
    · simp only [Value.slice.injEq] at e2
      exact e2.2.2
    · rw [e] at e2; simp at e2
  have Hnil : Hid (A0 = none → c0 = 0) := hnil
  have x0 := (S.lv 0 rfl).all
  have HS := Lib.hid S
  have Hl := Lib.hid hl
  have HB := Lib.hid hB
  have HB2 := Lib.hid hB2
  have hgl2 : ((5000 : Int) ≤ (gn.length : Int)) = False := by simp; omega
  have Hgl := Lib.hid hgl
  clear hSg S hl hB hB2 hgl hs hnil
  cases hk : L.isKey s
  · rw [hk] at Hk
    have Hf := Lib.hid hk
    clear hk hgl2
    go_enter Tryz.func47, Tryz.ntmps47
    go_wp2_with fail
    refine (Hk.out).mono ?_
    rintro e w2 ⟨rfl, hb⟩
    have HS2 := Lib.hid (HS.out.below hb)
    clear Hk HS hb x0
    go_wp2_with fail
    go_ret2
    exact ⟨false, 5, rfl, .inl ⟨Hf.out, rfl, rfl⟩, .inl ⟨Hf.out, HS2.out⟩⟩
  · rw [hk] at Hk
    have Hf := Lib.hid hk
    clear hk
    obtain ⟨gg, hgg⟩ : ∃ gg, hasId gn s = gg := ⟨_, rfl⟩
    rw [hgg] at Hct
    have Hg := Lib.hid hgg
    clear hgg
    go_enter Tryz.func47, Tryz.ntmps47
    go_wp2_with fail
    refine (Hk.out).mono ?_
    rintro e w2 ⟨rfl, hb⟩
    have S2 := HS.out.below hb
    have Hb2 := Lib.hid hb
    have HS2 := Lib.hid S2
    have Hc := Lib.hid (Hct.out w2 hb)
    clear Hk HS hb x0 Hct
    have x0 := (S2.lv 0 rfl).all
    clear S2
    go_wp2_with fail
    refine (Hc.out).mono ?_
    rintro e w3 ⟨rfl, rfl⟩
    clear Hc
    cases gg
    · have Hn : Hid (s ∉ gn) := hasId_no Hg.out
      have hBB2 : B2 ≤ w2.heap.size := Nat.le_trans HB2.out (Nat.le_of_lt (HS2.out.lv 0 rfl).lt)
      go_upto_region 7 with fail
      generalize Value.slice A2 gn.length c2 = vv at *
      go_upto_region 8 with (at_builtin; refine HS2.out.app 3 rfl tyStrs rfl _ _ rfl s 1 rfl rfl rfl (oneStrs s) hBB2 (by have := Hgl.out; omega) (by decide) ?_; intro v7 w7 S7; obtain ⟨gn2, hgn2⟩ : ∃ gn2, gn ++ [s] = gn2 := ⟨_, rfl⟩; rw [hgn2] at S7; have Hgn2 := Lib.hid hgn2; obtain ⟨A7, c7, e7⟩ := (S7.ow 3 rfl).len; subst e7; clear hgn2; have x7 := (S7.lv 0 rfl).all)
      have S8 : Mem w0 (w7.setCell ⟨Y, 2, none⟩ (.slice A7 gn2.length c7)) (rlgP Y K n ck (.slice A0 ps.length c0) B ps fs (.slice A7 gn2.length c7) B2 gn2 ch) := S7.set 0 2 (.slice A7 gn2.length c7) rfl
      have HS8 := Lib.hid S8
      clear S7 S8 HS2 x0
      generalize World.setCell _ _ _ = w8 at HS8 ⊢
      clear x7
      have Hpl := Lib.hid (place_log (fun _ => False) Y K n ck A0 c0 (.slice A7 gn2.length c7) ps s w8 (HS8.out.lv 0 rfl) ((HS8.out.ow 1 rfl).slF flatEQ) (by have := Hl.out; omega))
      go_wp2_with fail
      refine (Hpl.out).mono ?_
      rintro e w9 ⟨i, rfl, hb9, hi⟩
      have S9 := HS8.out.below hb9
      have HBw9 : Hid (B ≤ w9.heap.size) := Nat.le_trans HB.out (Nat.le_of_lt (S9.lv 0 rfl).lt)
      have x9 := (S9.lv 0 rfl).all
      have HS9 := Lib.hid S9
      clear HS8 Hpl hb9 S9
      rcases hi with ⟨rfl, hno⟩ | ⟨k, p, rfl, hk, hp, _⟩
      · have Hno : Hid (∀ p ∈ ps, p.e.id ≠ s) := fun p hpm e => by
          have h1 := hno p hpm
          rw [idIs_iff.2 e] at h1
          cases h1
        clear hno
        go_wp2_with fail
        go_ret2
        exact ⟨false, 0, rfl, .inr (.inr (.inr ⟨Hf.out, Hn.out, fun y hy => by
          obtain ⟨p, hpm, rfl⟩ := List.mem_map.1 hy
          exact Hno.out p hpm, rfl, rfl⟩)), .inr (.inr (.inl ⟨Hf.out, Hn.out, Hno.out, _, by rw [Hgn2.out]; exact HS9.out⟩))⟩
      · have Hid' := Lib.hid (idIs_iff.1 hp)
        have hkl : k < ps.length := (List.getElem?_eq_some_iff.1 hk).1
        have Hk2 := Lib.hid hk
        have hw1 : IntKind.i64.wrap ((k : Int) + 1) = (k : Int) + 1 := by rw [IntKind.wrap_i64]; have := Hl.out; omega
        have Hcl := Lib.hid (cloneE_any A0 ps c0 w9 ((HS9.out.ow 1 rfl).slF flatEQ) (by have := Hl.out; omega) Hnil.out)
        clear hk hp
        go_wp2_with fail
        refine (Hcl.out).mono ?_
        rintro e w10 ⟨v10, rfl, T⟩
        have S11 : Mem w0 w10 (.own rEQ w9.heap.size 47 v10 ps :: rlgP Y K n ck (.slice A0 ps.length c0) B ps fs (.slice A7 gn2.length c7) B2 gn2 ch) := (HS9.out.join T).front
        have S11b := S11.ownBase flatEQ 0 rfl HBw9.out
        have S12 : Mem w0 w10 (.own rEQ B 47 v10 ps :: rlgP Y K n ck (.slice A0 ps.length c0) B ps fs (.slice A7 gn2.length c7) B2 gn2 ch) := S11b
        clear S11 S11b T HS9 Hcl x9 HBw9
        rcases (S12.ow 0 rfl).shape2 with ⟨_, e0⟩ | ⟨g9, cap, rfl, _⟩
        · rw [e0] at hkl; simp at hkl
        · have Hd := Lib.hid (delEq_any k S12 rfl hkl (by have := Hl.out; omega))
          have x9 := (S12.lv 1 rfl).all
          clear S12
          go_wp2_with fail
          refine (Hd.out).mono ?_
          rintro e w11 ⟨rfl, S13⟩
          obtain ⟨p2, hp2⟩ : ∃ p2, ps.take k ++ ps.drop (k + 1) = p2 := ⟨_, rfl⟩
          rw [hp2] at S13 ⊢
          have Hp2 := Lib.hid hp2
          have S14 := S13.set 1 1 (.slice (some ⟨g9, 0, none⟩) p2.length cap) rfl
          have S15 : Mem w0 (w11.setCell ⟨Y, 1, none⟩ (.slice (some ⟨g9, 0, none⟩) p2.length cap)) (.own rEQ B 47 (.slice (some ⟨g9, 0, none⟩) p2.length cap) p2 :: .loc Y (rlgCs K n ck (.slice (some ⟨g9, 0, none⟩) p2.length cap) (.slice A7 gn2.length c7)) 39 :: .own rEQ B 47 (.slice A0 ps.length c0) ps :: .flds fs :: .own rStr B2 9 (.slice A7 gn2.length c7) gn2 :: ch) := S14
          have HS16 := Lib.hid ((S15.del 2).perm (List.Perm.swap _ _ _))
          have x11 := (S13.lv 1 rfl).all
          clear S13 S14 S15 hp2 Hd x9
          go_wp2_with fail
          go_ret2
          exact ⟨true, 0, rfl, .inr (.inr (.inl ⟨Hf.out, Hn.out, ⟨p.e, List.mem_map_of_mem (List.mem_of_getElem? Hk2.out), Hid'.out⟩, rfl, rfl⟩)), .inr (.inr (.inr ⟨Hf.out, Hn.out, k, p, _, _, Hk2.out, Hid'.out, by rw [Hp2.out, Hgn2.out]; exact HS16.out⟩))⟩
    · have Hy : Hid (s ∈ gn) := (hasId_iff _ _).1 Hg.out
      go_wp2_with fail
      go_ret2
      exact ⟨false, 0, rfl, .inr (.inl ⟨Hf.out, Hy.out, rfl, rfl⟩), .inr (.inl ⟨Hf.out, Hy.out, HS2.out⟩)⟩
set_option maxHeartbeats 4000000 in
set_option maxRecDepth 100000 in
theorem rtd_rlg (Y : Nat) (K : Option Addr) (n ck : Nat) (v : Value) (A : Option Addr) (c : Nat) (gn : List ByteArray) (w : World) (hY : LV w Y (rlgCs K n ck v (.slice A gn.length c)) 39) (hS : Sl rStr (fun _ => False) w A gn) (hl : gn.length ≤ 1000) :
    Calls Tryz.prog 23 #[.pointer (some ⟨Y, 0, none⟩)] w (GivesWs (srtW gn) w) := by
  have Hc := Lib.hid (cloneW_any A gn c w hS hl)
  have y0 := hY.all
  have Hl := Lib.hid hl
  clear hY hS hl
  go_enter Tryz.func23, Tryz.ntmps23
  go_wp2_with fail
  refine (Hc.out).mono ?_
  rintro e w2 ⟨A2, c2, rfl, S2⟩
  have Hs9 := Lib.hid (sortOwnW S2 0 rfl (by have := Hl.out; omega))
  clear S2 Hc y0
  go_wp2_with fail
  refine (Hs9.out).mono ?_
  rintro e w6 ⟨rfl, S7⟩
  obtain ⟨A9, c9, e9, S8⟩ := S7.frz 0 rfl
  have HS8 := Lib.hid S8
  have He9 := Lib.hid e9
  clear Hs9 S7 S8 e9
  go_wp2_with fail
  go_ret
  exact ⟨A9, c9, congrArg Ending.returned He9.out, HS8.out⟩
end Go.Proofs.YtmlpkejeglpciaaGreatDoor

/- What the generator Schemas makes. -/
namespace Go.Proofs.YtmlpkejeglpciaaGreatDoor
open Go Go.RowKit
theorem flatNd : rNd.Flat Nd.cells := fun _ _ _ _ => Iff.rfl
theorem tyNd : STy 71 76 rNd.size 32 (.agg #[.string ⟨#[]⟩, .int .i64 0, .bool false]) := ⟨Tryz.underlying71, by kernel_rfl, rfl, by decide⟩
theorem tyScm : STy 26 73 rScm.size 40 (.agg #[.string ⟨#[]⟩, .slice none 0 0]) := ⟨Tryz.underlying26, by kernel_rfl, rfl, by decide⟩
theorem oneNd (n : Nd) : ∀ u ∈ n.cells, u.oneCell' = true := fun u hu => by
  simp only [Nd.cells, List.mem_cons, List.not_mem_nil, or_false] at hu
  rcases hu with rfl | rfl | rfl <;> rfl
theorem oneScm (s : ByteArray) (A : Option Addr) (n c : Nat) : ∀ u ∈ [Value.string s, Value.slice A n c], u.oneCell' = true := fun u hu => by
  simp only [List.mem_cons, List.not_mem_nil, or_false] at hu
  rcases hu with rfl | rfl <;> rfl
theorem rScm_mk {N : Nat → Prop} {w : World} {s : Scm} {A : Option Addr} {c : Nat} (h : Sl rNd N w A s.needs) : rScm.rel N w s [.string s.name, .slice A s.needs.length c] := ⟨Scm.cells s, [.slice A s.needs.length c], rfl, rfl, A, c, rfl, h⟩
structure ScmSm (l : List Scm) : Prop where
  len : l.length ≤ 10
  nm : ∀ s ∈ l, s.name.size ≤ 10
  nl : ∀ s ∈ l, s.needs.length ≤ 10
  nn : ∀ s ∈ l, ∀ n ∈ s.needs, n.name.size ≤ 100
theorem ScmSm.ok {l : List Scm} (h : ScmSm l) : ScmOk l := ⟨Nat.le_trans h.len (by decide), fun s hs => Nat.le_trans (h.nm s hs) (by decide), fun s hs => Nat.le_trans (h.nl s hs) (by decide), fun s hs n hn => Nat.le_trans (h.nn s hs n hn) (by decide)⟩
theorem ScmSm.snoc {l : List Scm} {nm : ByteArray} {ns : List Nd} (h : ScmSm l) (hl : l.length ≤ 9) (h1 : nm.size ≤ 10) (h2 : ns.length ≤ 10) (h3 : ∀ n ∈ ns, n.name.size ≤ 100) : ScmSm (l ++ [⟨nm, ns⟩]) := by
  refine ⟨by simp; omega, fun s hs => ?_, fun s hs => ?_, fun s hs => ?_⟩
  all_goals
    rcases List.mem_append.1 hs with hs | hs
  · exact h.nm s hs
  · rw [List.mem_singleton.1 hs]; exact h1
  · exact h.nl s hs
  · rw [List.mem_singleton.1 hs]; exact h2
  · exact h.nn s hs
  · rw [List.mem_singleton.1 hs]; exact h3
def DrawsScms (b m : Nat) (w : World) (e : Ending) (w' : World) : Prop := ∃ (v : Value) (l : List Scm), e = .returned v ∧ ScmSm l ∧ St b m w w' [.own rScm w.heap.size 73 v l]
theorem ix4 (a b c d : ByteArray) (k : Nat) (hk : k < 4) : ∃ s : ByteArray, (s = a ∨ s = b ∨ s = c ∨ s = d) ∧ ∀ w, (Instr.index 70 (.agg #[.string a, .string b, .string c, .string d]) (.int .i64 k)).run Tryz.prog w = .ok (.string s) w := by
  obtain rfl | rfl | rfl | rfl : k = 0 ∨ k = 1 ∨ k = 2 ∨ k = 3 := by omega
  · exact ⟨a, .inl rfl, fun _ => by kernel_rfl⟩
  · exact ⟨b, .inr (.inl rfl), fun _ => by kernel_rfl⟩
  · exact ⟨c, .inr (.inr (.inl rfl)), fun _ => by kernel_rfl⟩
  · exact ⟨d, .inr (.inr (.inr rfl)), fun _ => by kernel_rfl⟩
set_option maxHeartbeats 8000000 in
set_option maxRecDepth 100000 in
theorem schemas_any (b m : Nat) (w : World) (hs : Strm b m w) (hm : m ≤ 100000000) (hN : Names w) (hNb : 1 ≠ b) (hE : ENames w) :
    Calls Tryz.prog 7 #[.pointer (some ⟨b, 0, none⟩)] w (DrawsScms b (m + 200) w) := by
  have S := (St.start hs).nil rScm w.heap.size 73
  replace S : St b m w w [.own rScm w.heap.size 73 (.slice none 0 0) []] := S
  have HN := Lib.hid hN
  obtain ⟨s0, hs0, n0⟩ := hE 0 (by omega)
  obtain ⟨s1, hs1, n1⟩ := hE 1 (by omega)
  obtain ⟨s2, hs2, n2⟩ := hE 2 (by omega)
  obtain ⟨s3, hs3, n3⟩ := hE 3 (by omega)
  have HIX : Hid (∀ k : Nat, k < 4 → ∃ s : ByteArray, s.size ≤ 10 ∧ ∀ w, (Instr.index 70 (.agg #[.string s0, .string s1, .string s2, .string s3]) (.int .i64 k)).run Tryz.prog w = .ok (.string s) w) := fun k hk => by
    obtain ⟨s, h1, h2⟩ := ix4 s0 s1 s2 s3 k hk
    exact ⟨s, by rcases h1 with rfl | rfl | rfl | rfl <;> assumption, h2⟩
  clear hs hN hE hs0 hs1 hs2 hs3
  go_enter Tryz.func7, Tryz.ntmps7
  go_wp2_with fail
  clear n0 n1 n2 n3
  go_loopw [3, 10] (fun s3 i wr => ∃ (k : Nat) (A : Option Addr) (cv : Nat) (l : List Scm), k ≤ 4 ∧ i = .int .i64 k ∧ s3 = .slice A l.length cv ∧ Hid (l.length ≤ k) ∧ Hid (ScmSm l) ∧ St b (m + 25 * k) w wr [.own rScm w.heap.size 73 (.slice A l.length cv) l]) (fun _ i _ => 4 - (intOf i).toNat)
  case atStart => exact ⟨0, none, 0, [], by omega, rfl, rfl, by show _ ≤ _; simp, ⟨by simp, by simp, by simp, by simp⟩, S.mono (by omega)⟩
  case round =>
    clear S
    obtain ⟨k, A, cv, l, hk, rfl, rfl, Hl, Hsm, S⟩ := hrel
    by_cases hk4 : k < 4
    · obtain ⟨nm, hnm, hix⟩ := HIX.out k hk4
      go_wp2_with fail
      refine (flip_any b _ _ _ S.g.s (by omega) (by omega) (by omega)).mono ?_
      rintro e w1 ⟨r1, rfl, hk_w1, hs_w1⟩
      replace S := S.step hk_w1 hs_w1
      clear hk_w1 hs_w1
      clear hix
      cases r1
      · go_upto_region 7 with fail
        obtain ⟨X, hX⟩ : ∃ X, X = w1.heap.size := ⟨_, rfl⟩
        replace S := ((S.newAt #[.string nm, .slice none 0 0] 73 X hX).front.nil rNd w.heap.size 76).front
        rw [← hX]
        clear hX
        generalize w1.alloc (.cells #[.string nm, .slice none 0 0] 73) = w2 at *
        obtain ⟨n0, n1, n2, n3, n4, n5⟩ := HN.out.keep S.g.k hNb
        go_wp2_with fail
        clear n0 n1 n2 n3 n4 n5
        go_loopw [18] (fun i wr => ∃ (j : Nat) (An : Option Addr) (cn : Nat) (ns : List Nd), j ≤ 6 ∧ i = .int .i64 j ∧ Hid (ns.length ≤ j) ∧ Hid (∀ n ∈ ns, n.name.size ≤ 100) ∧ St b (m + 25 * k + 1 + 3 * j) w wr [.own rNd w.heap.size 76 (.slice An ns.length cn) ns, .loc X #[.string nm, .slice An ns.length cn] 73, .own rScm w.heap.size 73 (.slice A l.length cv) l]) (fun i _ => 6 - (intOf i).toNat)
        case atStart => exact ⟨0, none, 0, [], by omega, rfl, by show _ ≤ _; simp, by show ∀ _ ∈ _, _; simp, S.mono (by omega)⟩
        case round =>
          clear S
          obtain ⟨j, An, cn, ns, hj, rfl, Hnl, Hnn, S⟩ := hrel
          by_cases hj6 : j < 6
          · obtain ⟨fn, hfn, hix⟩ := names_ix j hj6
            go_wp2_with fail
            refine (flip_any b _ _ _ S.g.s (by omega) (by omega) (by omega)).mono ?_
            rintro e w3 ⟨r3, rfl, hk_w3, hs_w3⟩
            replace S := S.step hk_w3 hs_w3
            clear hk_w3 hs_w3
            clear hix
            cases r3
            · go_wp2_with fail
              go_roundw
              case rel => exact ⟨j + 1, An, cn, ns, by omega, by go_num, by have := Hnl.out; show _ ≤ _; omega, Hnn, S.mono (by omega)⟩
              case measure => simp [intOf]; omega
            · have hc1 : w3.cell? ⟨X, 1, none⟩ = some (.slice An ns.length cn) := (S.lv 1 rfl).cell 1 _ rfl
              go_wp2_with fail
              refine wp_region_mixG 11 (fun wc => wc.cell? ⟨X, 1, none⟩ = some (.slice An ns.length cn)) [.q 0, .q 1, .q 2, .q 3, .q 5, .e 4, .e 6, .q 7, .e 8, .e 9, .q 10, .e 11] (by kernel_rfl) (by kernel_rfl) (fun _ hd => ((S.below (hd.below _)).lv 1 rfl).cell 1 _ rfl) (fun KK hKK wd hd => ?_)
              replace S := S.below (hd.below _)
              clear hd hc1
              refine mpG ?_
              refine mixG_load (.slice An ns.length cn) rfl rfl rfl rfl (fun _ => rfl) (fun _ h => h) ?_
              refine mpG ?_
              have hCa : wd.cell? ⟨X, 1, none⟩ = some (.slice An ns.length cn) := (S.lv 1 rfl).cell 1 _ rfl
              refine mixG_l rfl rfl (fun K hK => ?_)
              go_wp2_with fail
              refine (range_any b _ _ _ _ S.g.s (by omega) (by omega) (by omega) (by omega)).mono ?_
              rintro e w4 ⟨kd, kd_lo, kd_hi, rfl, hk_w4, hs_w4⟩
              replace S := S.step hk_w4 hs_w4
              clear hk_w4 hs_w4
              have hCc : w4.cell? ⟨X, 1, none⟩ = some (.slice An ns.length cn) := (S.lv 1 rfl).cell 1 _ rfl
              go_wp2_with fail
              refine ⟨by first | exact hCc | exact fun _ => hCc, ?_⟩
              clear hCc
              refine mixG_l rfl rfl (fun K hK => ?_)
              go_wp2_with fail
              refine (flip_any b _ _ _ S.g.s (by omega) (by omega) (by omega)).mono ?_
              rintro e w5 ⟨mu, rfl, hk_w5, hs_w5⟩
              replace S := S.step hk_w5 hs_w5
              clear hk_w5 hs_w5
              have hCc : w5.cell? ⟨X, 1, none⟩ = some (.slice An ns.length cn) := (S.lv 1 rfl).cell 1 _ rfl
              go_wp2_with fail
              refine ⟨by first | exact hCc | exact fun _ => hCc, ?_⟩
              clear hCc
              refine mpG ?_
              have hsz := S.g.size
              have hlt := Hnl.out
              have hCb : ∀ o, (w5.alloc o).cell? ⟨X, 1, none⟩ = some (.slice An ns.length cn) := fun o => ((S.alloc o).lv 1 rfl).cell 1 _ rfl
              refine mixG_l rfl rfl (fun K hK => ?_)
              go_wp2_with fail
              first | refine ⟨hCb _, ?_⟩ | refine ⟨fun _ => hCb _, ?_⟩ | skip
              clear hCb hCa
              refine mixG_l rfl rfl (fun K hK => ?_)
              refine S.app 0 rfl tyNd rfl _ _ rfl ⟨fn, kd, mu⟩ 1 rfl rfl rfl (oneNd ⟨fn, kd, mu⟩) hsz (by omega) (by decide) ?_
              intro v' w6 S6
              obtain ⟨A6, c6, rfl⟩ := (S6.ow 0 rfl).len
              have hCc : w6.cell? ⟨X, 1, none⟩ = some (.slice An ns.length cn) := (S6.lv 1 rfl).cell 1 _ rfl
              have hCf : w6.frozen? ⟨X, 1, none⟩ = false := (S6.lv 1 rfl).free 1
              go_wp2_with fail
              first | refine ⟨hCc, ?_⟩ | refine ⟨fun _ => hCc, ?_⟩ | skip
              refine mpG ?_
              refine mixG_l rfl rfl (fun K hK => ?_)
              go_wp2_with fail
              refine ⟨fun h => absurd rfl h, ?_⟩
              refine mixG_nil ?_
              simp only [Exit.then]
              refine hKK _ _ ?_
              clear hCc hCf
              go_wp2_with fail
              go_roundw
              case rel =>
                have S7 : St b (m + 25 * k + 1 + 3 * j + 1 + 1 + 1) w (w6.setCell ⟨X, 1, none⟩ (.slice A6 (ns ++ [(⟨fn, kd, mu⟩ : Nd)]).length c6)) [.own rNd w.heap.size 76 (.slice A6 (ns ++ [(⟨fn, kd, mu⟩ : Nd)]).length c6) (ns ++ [(⟨fn, kd, mu⟩ : Nd)]), .loc X #[.string nm, .slice A6 (ns ++ [(⟨fn, kd, mu⟩ : Nd)]).length c6] 73, .own rScm w.heap.size 73 (.slice A l.length cv) l] := S6.set 1 1 (.slice A6 (ns ++ [(⟨fn, kd, mu⟩ : Nd)]).length c6) rfl
                refine ⟨j + 1, A6, c6, ns ++ [⟨fn, kd, mu⟩], by omega, by go_num, by show _ ≤ _; simp; omega, ?_, ?_⟩
                · intro n hn
                  rcases List.mem_append.1 hn with hn | hn
                  · exact Hnn.out n hn
                  · rw [List.mem_singleton.1 hn]; exact hfn
                · first
                    | exact S7.mono (by omega)
                    | (rw [show ns.length + 1 = (ns ++ [(⟨fn, kd, mu⟩ : Nd)]).length by simp]; exact S7.mono (by omega))
              case measure => simp [intOf]; omega
          · obtain ⟨A9, c9, e9, S9⟩ := S.frz 0 rfl
            cases e9
            clear S
            have S : St b (m + 25 * k + 1 + 3 * j) w wr [.sl rNd An ns, .loc X #[.string nm, .slice An ns.length cn] 73, .own rScm w.heap.size 73 (.slice A l.length cv) l] := S9
            clear S9
            have hsz := S.g.size
            have x0 := (S.lv 1 rfl).all
            have hlt := Hl.out
            have hnl := Hnl.out
            go_wp2_with (at_builtin; refine S.app 2 rfl tyScm rfl _ _ rfl ⟨nm, ns⟩ 1 rfl rfl (rScm_mk (S.slc 0 rfl)) (oneScm nm An ns.length cn) hsz (by omega) (by decide) ?_; intro v' w10 S6; obtain ⟨A6, c6, rfl⟩ := (S6.ow 2 rfl).len)
            go_roundw
            case rel =>
              exact ⟨k + 1, A6, c6, l ++ [⟨nm, ns⟩], by omega, by go_num, by simp, by show _ ≤ _; simp; omega, Lib.hid (Hsm.out.snoc (by omega) hnm (by omega) Hnn.out), ((S6.del 1).del 0).mono (by omega)⟩
            case measure => simp [intOf]; omega
      · go_wp2_with fail
        go_roundw
        case rel => exact ⟨k + 1, A, cv, l, by omega, by go_num, rfl, by have := Hl.out; show _ ≤ _; omega, Hsm, S.mono (by omega)⟩
        case measure => simp [intOf]; omega
    · have hlt := Hl.out
      go_wp2_with fail
      refine (flip_any b _ _ _ S.g.s (by omega) (by omega) (by omega)).mono ?_
      rintro e w2 ⟨r2, rfl, hk_w2, hs_w2⟩
      replace S := S.step hk_w2 hs_w2
      clear hk_w2 hs_w2
      cases r2
      · go_wp2_with fail
        go_ret
        exact ⟨_, l, rfl, Hsm.out, S.mono (by omega)⟩
      · go_wp2_with fail
        refine (one_le b _ _ _ (10) S.g.s (by first | rfl | simp) (by first | rfl | simp) (strsLe_of (by decide)) (by simp) (by simp) (by omega)).mono ?_
        rintro e w3 ⟨nm, nm_le, rfl, hk_w3, hs_w3⟩
        replace S := S.step hk_w3 hs_w3
        clear hk_w3 hs_w3
        go_wp2_with fail
        refine (one_le b _ _ _ (10) S.g.s (by first | rfl | simp) (by first | rfl | simp) (strsLe_of (by decide)) (by simp) (by simp) (by omega)).mono ?_
        rintro e w4 ⟨fa, fa_le, rfl, hk_w4, hs_w4⟩
        replace S := S.step hk_w4 hs_w4
        clear hk_w4 hs_w4
        go_wp2_with fail
        refine (odd_any b _ _ _ _ S.g.s (by omega) (by omega) (by omega) (by omega)).mono ?_
        rintro e w5 ⟨kd, kd_lo, kd_hi, rfl, hk_w5, hs_w5⟩
        replace S := S.step hk_w5 hs_w5
        clear hk_w5 hs_w5
        go_wp2_with fail
        refine (one_le b _ _ _ (10) S.g.s (by first | rfl | simp) (by first | rfl | simp) (strsLe_of (by decide)) (by simp) (by simp) (by omega)).mono ?_
        rintro e w6 ⟨fb, fb_le, rfl, hk_w6, hs_w6⟩
        replace S := S.step hk_w6 hs_w6
        clear hk_w6 hs_w6
        have hsz := S.g.size
        obtain ⟨A9, c9, e9, S9⟩ := ((S.new' #[.string fa, .int .i64 kd, .bool false, .string fb, .int .i64 1, .bool false] 76).asOwn flatNd 1 rfl [⟨fa, kd, false⟩, ⟨fb, 1, false⟩] rfl rfl (by simp) rfl 2 rfl).frz 1 rfl
        cases e9
        have hsl : Sl rNd _ _ (some ⟨w6.heap.size, 0, none⟩) [⟨fa, kd, false⟩, ⟨fb, 1, false⟩] := S9.slc 1 rfl
        have hsz9 := S9.g.size
        clear S
        go_wp2_with (at_builtin; go_loud (refine S9.app 0 rfl tyScm rfl _ _ rfl ⟨nm, [⟨fa, kd, false⟩, ⟨fb, 1, false⟩]⟩ 1 rfl (by rw [World.size_alloc]; rfl) (rScm_mk (s := ⟨nm, [⟨fa, kd, false⟩, ⟨fb, 1, false⟩]⟩) (c := 2) hsl) (oneScm nm (some ⟨w6.heap.size, 0, none⟩) 2 2) hsz9 (by omega) (by decide) ?_); intro v' w10 S6; obtain ⟨A6, c6, rfl⟩ := (S6.ow 0 rfl).len)
        go_ret
        refine ⟨_, l ++ [⟨nm, [⟨fa, kd, false⟩, ⟨fb, 1, false⟩]⟩], by simp, Hsm.out.snoc (by omega) nm_le (by simp) (fun n hn => ?_), (S6.del 1).mono (by omega)⟩
        simp only [List.mem_cons, List.not_mem_nil, or_false] at hn
        rcases hn with rfl | rfl
        · show fa.size ≤ 100; omega
        · show fb.size ≤ 100; omega
end Go.Proofs.YtmlpkejeglpciaaGreatDoor
