/- Several texts in one: LogJoin, LogLaw6, CatE. -/
import Derived.Test.YtmlpkejeglpciaaGreatDoorPkAX
import Derived.Test.YtmlpkejeglpciaaGreatDoorPkAU
import Derived.Test.YtmlpkejeglpciaaGreatDoorPkAG
import Derived.Test.YtmlpkejeglpciaaGreatDoorPkAQ
import Derived.Lib.AppendZerosOnto
/- (*Log).Join: everything that another log has is added. -/
namespace Go.Proofs.YtmlpkejeglpciaaGreatDoor
open Go Go.RowKit
theorem MapG.nodupJ {κ : Type} {K : KeyL κ} {w : World} {X : Nat} {L : List (κ × Value)} (h : MapG K w X L) : (L.map Prod.fst).Nodup := by
  obtain ⟨es, cl, hb, he⟩ := h
  exact he.nd
theorem perm_tail (a1 a2 a3 a4 a5 b1 b2 b3 b4 b5 c : Chunk) (T : List Chunk) : (a1 :: a2 :: a3 :: a4 :: a5 :: b1 :: b2 :: b3 :: b4 :: b5 :: (T ++ [c])).Perm (a1 :: a2 :: a3 :: a4 :: a5 :: b1 :: b2 :: b3 :: b4 :: b5 :: c :: T) := (List.perm_append_comm (l₁ := T) (l₂ := [c])).append_left [a1, a2, a3, a4, a5, b1, b2, b3, b4, b5]
theorem mixT_lenR {P : Program} {ops : Array Oper} {Q : Exit → Act → World → Prop} {C : World → Prop} {i : Nat} {r : OrdT} {o : Oper} {a : Act} {w : World} {T : TypeId} {x : Operand} {p : Value} (v : Value) (hi : ops[i]? = some o) (hg : o.guard = none) (ho : o.op = .call { callee := .builtin .len, args := #[x], argTypes := #[T] }) (hx : a.eval x = p)
    (hr : ∀ w', C w' → (Builtin.len_ #[T] o.type #[p]).run P w' = .ok v w') (h : wpMixT P ops Q C r (a.put o.dst v) w) : wpMixT P ops Q C (.q i r) a w := by
  refine ⟨o, v, hi, .inl ⟨by simp [Region.wanted, hg], fun w hC => ?_⟩, h⟩
  have h2 := hr w hC
  unfold execOp
  simp only [ho, resolve, invoke, builtin, Sem.run_bind, Sem.run_pure, Result.andThen_ok, List.map_toArray, List.map_cons, List.map_nil, hx, h2, Oper.quietUpon, and_self]
abbrev othP (X2 : Nat) (K2 : Option Addr) (n2 ck2 : Nat) (v2 : Value) (B2 : Nat) (q2 : List EQ) (AT2 : Nat) (L2 : List (ByteArray × Value)) (GN2 : Nat) (G2 : List (ByteArray × Value)) (ch : List Chunk) : List Chunk :=
  logP X2 K2 n2 ck2 v2 B2 q2 AT2 L2 GN2 (.mapG keyStr GN2 G2 :: ch)
def GivesJoinP (F : Evt → Int) (X : Nat) (K : Option Addr) (n ck : Nat) (v : Value) (B : Nat) (qs : List EQ) (AT : Nat) (La : List (ByteArray × Value)) (GN : Nat) (Lg : List (ByteArray × Value)) (q2 : List EQ) (G2 : List (ByteArray × Value)) (w0 : World) (ot : List Chunk) (e : Ending) (w' : World) : Prop :=
  ∃ (N er : Int), e = .returned (.tuple #[.int .i64 N, .int .i64 er]) ∧ JoinTo F (qs.map EQ.e) (Lg.map Prod.fst) (q2.map EQ.e) er ∧
    ((er ≠ 0 ∧ N = 0 ∧ Mem w0 w' (logP X K n ck v B qs AT La GN (.mapG keyStr GN Lg :: ot))) ∨
     (er = 0 ∧ ∃ (v' : Value) (qs' : List EQ) (La' Lg' : List (ByteArray × Value)), N = qs'.length ∧ JoinedP qs Lg q2 G2 qs' La' Lg' ∧ Mem w0 w' (logP X K n ck v' B qs' AT La' GN (.mapG keyStr GN Lg' :: ot))))
set_option maxHeartbeats 16000000 in
set_option maxRecDepth 100000 in
theorem join_log {w0 w : World} (ch : List Chunk) (X : Nat) (l : List Scm) (K : Option Addr) (ck : Nat) (v : Value) (B : Nat) (qs : List EQ) (AT : Nat) (La : List (ByteArray × Value)) (GN : Nat) (Lg : List (ByteArray × Value))
    (X2 : Nat) (K2 : Option Addr) (n2 ck2 : Nat) (v2 : Value) (B2 : Nat) (q2 : List EQ) (AT2 : Nat) (L2 : List (ByteArray × Value)) (GN2 : Nat) (G2 : List (ByteArray × Value)) (S : Mem w0 w (logP X K l.length ck v B qs AT La GN (.mapG keyStr GN Lg :: othP X2 K2 n2 ck2 v2 B2 q2 AT2 L2 GN2 G2 ch)))
    (hK : Sl rScm (fun _ => False) w K l) (hgs : GoodScm l) (hat : AtOk qs La) (hgo : GnOk Lg) (hlo : LogE (qs.map EQ.e)) (hlo2 : LogE (q2.map EQ.e)) (hl : qs.length ≤ 200) (hl2 : q2.length ≤ 200) (hgl : Lg.length ≤ 200) (hgl2 : G2.length ≤ 200)
    (hsm : ∀ q ∈ qs, EvSm q.e) (hsm2 : ∀ q ∈ q2, EvSm q.e) (hT : Tabs w) (hM : MaxL w) (hB : B ≤ X) :
    Calls Tryz.prog 16 #[.pointer (some ⟨X, 0, none⟩), .pointer (some ⟨X2, 0, none⟩)] w (GivesJoinP (sufF l) X K l.length ck v B qs AT La GN Lg q2 G2 w0 (othP X2 K2 n2 ck2 v2 B2 q2 AT2 L2 GN2 G2 ch)) := by
  obtain ⟨A0, c0, e0⟩ := (S.ow 1 rfl).len
  subst e0
  obtain ⟨A2, c2, e2⟩ := (S.ow 6 rfl).len
  subst e2
  have Hfr := Lib.hid (fresh_log X l K ck A0 c0 qs AT La GN Lg X2 K2 n2 ck2 A2 c2 q2 AT2 GN2 w (S.lv 0 rfl) (S.lv 5 rfl) (S.ok (.mapG keyStr AT La) (.tail _ (.tail _ (.tail _ (.head _))))) (S.ok (.mapG keyStr GN Lg) (.tail _ (.tail _ (.tail _ (.tail _ (.head _)))))) ((S.ow 1 rfl).slF flatEQ) (fun q hq => (S.fl 2 rfl q hq).mono (fun _ _ h => h.elim)) ((S.ow 6 rfl).slF flatEQ) (fun q hq => (S.fl 7 rfl q hq).mono (fun _ _ h => h.elim)) hK hgs hat hgo hlo (by omega) (by omega) hsm hsm2 hT hM)
  have hnd : (Lg.map Prod.fst).Nodup := MapG.nodupJ (S.ok (.mapG keyStr GN Lg) (.tail _ (.tail _ (.tail _ (.tail _ (.head _))))))
  have Hrm : Hid (∀ ws, RemP qs Lg ws 0 qs La Lg) := fun ws => RemP.start hlo hat hgo hnd
  have Hgo : Hid (GnOk Lg) := hgo
  have Hat : Hid (AtOk qs La) := hat
  have Hi2 := Lib.hid (logE_id hlo2)
  have Hsm2 := Lib.hid hsm2
  have HS := Lib.hid S
  clear hK hgs hat hgo hlo hlo2 hsm hsm2 hT hM hnd S
  go_enter Tryz.func16, Tryz.ntmps16
  go_wp2_with fail
  refine (Hfr.out).mono ?_
  rintro e w2 ⟨v9, come, er, rfl, hto, hco, hcl, T⟩
  have Hto := Lib.hid hto
  have Hco := Lib.hid hco
  clear hto hco Hfr
  by_cases her : er = 0
  · subst her
    obtain ⟨A9, c9, e9, T9⟩ := T.frz 0 rfl
    subst e9
    have Hcm : Hid (come = q2.filter (comes (Lg.map Prod.fst) qs)) := Hco.out rfl
    have S : Mem w0 w2 (logP X K l.length ck (.slice A0 qs.length c0) B qs AT La GN (.mapG keyStr GN Lg :: othP X2 K2 n2 ck2 (.slice A2 q2.length c2) B2 q2 AT2 L2 GN2 G2 (.sl rEQ A9 come :: ch))) := (HS.out.join T9).perm (perm_tail _ _ _ _ _ _ _ _ _ _ _ _)
    clear HS T T9 Hco
    go_upto_region 4 with fail
    have S0 := S
    clear S
    refine wp_region_mixT [] (fun wx => LV wx X (logCs K l.length ck (.slice A0 qs.length c0) AT GN) 83 ∧ MapG keyStr wx GN Lg) (.p 0 (.p 1 (.p 2 (.q 3 (.q 4 (.p 5 (.p 6 (.p 7 (.q 8 (.q 9 (.p 10 (.p 11 .z)))))))))))) (by kernel_rfl) (by kernel_rfl) (fun _ hd => ⟨(S0.below (hd.below _)).lv 0 rfl, (S0.below (hd.below _)).ok (.mapG keyStr GN Lg) (.tail _ (.tail _ (.tail _ (.tail _ (.head _)))))⟩) (fun KK hKK w4 hd => ?_)
    have S := S0.below (hd.below _)
    clear hd S0
    refine mpT ?_
    refine mixT_loadR (.map (some GN)) rfl rfl rfl rfl (fun w' h => loadC1 rfl (h.1.cell 3 _ rfl)) ?_
    refine mixT_lenR (.int .i64 Lg.length) rfl rfl rfl rfl (fun w' h => len_g h.2 (T := 81) (E := 4) (by kernel_rfl) _) ?_
    refine mpT ?_
    refine mixT_loadR (.slice A0 qs.length c0) rfl rfl rfl rfl (fun w' h => loadC1 rfl (h.1.cell 1 _ rfl)) ?_
    refine mpT ?_
    refine mixT_nil ?_
    simp only [Exit.then]
    refine hKK _ _ ?_
    clear hKK KK
    have hM2 : MapG keyStr w4 GN2 G2 := S.ok (.mapG keyStr GN2 G2) (.tail _ (.tail _ (.tail _ (.tail _ (.tail _ (.tail _ (.tail _ (.tail _ (.tail _ (.head _))))))))))
    obtain ⟨es, clock, hbk, hE⟩ := hM2
    have HE := Lib.hid hE
    have Hbb := Lib.hid (fun w' (h : Below w4.heap.size w4 w') => (h.block GN2 (Array.getElem?_eq_some_iff.1 hbk).1).trans hbk)
    obtain ⟨hrg, S1⟩ := (Mem.start w4).rangeO hbk (T := 81) (k := 9) (e := 4) (by kernel_rfl)
    obtain ⟨Zr, hZr⟩ : ∃ Zr, Zr = w4.heap.size := ⟨_, rfl⟩
    rw [← hZr] at hrg S1
    have y0 := (S.lv 5 rfl).all
    have Hgn : Hid (∀ (s : ByteArray) w', Below w4.heap.size w4 w' → (Instr.lookup 81 (.map (some GN)) (.string s) false).run Tryz.prog w' = .ok (.bool (hasId (Lg.map Prod.fst) s)) w') := fun s w' h => gone_g (MapG.keepB (S.ok (.mapG keyStr GN Lg) (.tail _ (.tail _ (.tail _ (.tail _ (.head _)))))) h) (by kernel_rfl) Hgo.out s
    have Hlk : Hid (∀ (s : ByteArray) w', Below w4.heap.size w4 w' → ∃ (z : Int) (hh : Bool), (Instr.lookup 80 (.map (some AT)) (.string s) true).run Tryz.prog w' = .ok (.tuple #[.int .i64 z, .bool hh]) w') := fun s w' h => by
      have h1 := look_g (MapG.keepB (S.ok (.mapG keyStr AT La) (.tail _ (.tail _ (.tail _ (.head _))))) h) (T := 80) (E := 3) (by kernel_rfl) (zeroIntL w') s true
      rw [if_pos rfl, Hat.out s] at h1
      cases hh : hasE s qs with
      | none => rw [hh] at h1; exact ⟨0, false, h1⟩
      | some q => rw [hh] at h1; exact ⟨q.e.at', true, h1⟩
    have HXl := Lib.hid (fun w' (h : Below w4.heap.size w4 w') => LV.kb3 (S.lv 0 rfl) h (S.lv 0 rfl).lt)
    have HS := Lib.hid S
    clear hbk hE hZr S
    have HR0 : Hid (RngOk keyStr es clock #[] G2 [] G2) := RngOk.start HE.out
    go_wp2_with fail
    clear hrg y0
    generalize w4.alloc (.mapIter (some GN2) clock #[] clock) = w5 at *
    go_loopw [8, 9] (fun r f wr => ∃ (a b : Int) (seen : Array Nat) (dq left : List (ByteArray × Value)), r = .int .i64 a ∧ f = .int .i64 b ∧ Hid (0 ≤ a ∧ a ≤ Lg.length + dq.length ∧ -(dq.length : Int) ≤ b ∧ b ≤ qs.length) ∧ Hid (RngOk keyStr es clock seen G2 dq left) ∧ Mem w4 wr [.iter Zr GN2 clock seen clock]) (fun _ _ wr => iterLeft es Zr wr)
    case atStart => exact ⟨_, _, #[], [], G2, rfl, rfl, ⟨by omega, by simp, by simp, by omega⟩, HR0, S1⟩
    case round =>
      clear S1 HR0
      obtain ⟨a, b, seen, dq, left, rfl, rfl, Hab, HRg, S3⟩ := hrel
      have hsz3 : Hid (iterLeft es Zr wr = left.length) := S3.iterSize 0 rfl HRg.out
      have hdl : dq.length ≤ 200 := by
        have h1 := HRg.out.perm.length_eq
        rw [List.length_append] at h1
        omega
      obtain ⟨hab1, hab2, hab3, hab4⟩ := Hab.out
      rcases S3.nextO 0 (Hbb.out wr S3.b) rfl (Nat.le_refl _) HRg.out with ⟨hl0, hp0, hnx⟩ | ⟨pq, left', seen', w6, hpm, hll, hrg, hnx, hen, S5⟩
      · have S := HS.out.below S3.b
        have hf1 : ((5000 : Int) < a) = False := by simp; omega
        have hw3 : IntKind.i64.wrap (b + (come.length : Int)) = b + come.length := by rw [IntKind.wrap_i64]; omega
        have hf2 : ((5000 : Int) < b + (come.length : Int)) = False := by simp; omega
        have Hrt := Lib.hid (retracted_log X2 K2 n2 ck2 (.slice A2 q2.length c2) AT2 GN2 G2 wr (S.lv 5 rfl) (S.ok (.mapG keyStr GN2 G2) (.tail _ (.tail _ (.tail _ (.tail _ (.tail _ (.tail _ (.tail _ (.tail _ (.tail _ (.head _)))))))))) ) (by omega))
        have HS2 := Lib.hid S
        clear hl0 hp0 S3 S HS HXl Hgn Hlk Hbb hsz3 HRg hdl hab1 hab2 hab3 hab4
        go_wp2_with fail
        refine (Hrt.out).mono ?_
        rintro e w7 ⟨Aw, cw, he, T9⟩
        obtain ⟨ws, hws⟩ : ∃ ws, srtW (G2.map Prod.fst) = ws := ⟨_, rfl⟩
        rw [hws] at he T9
        have Hws : Hid (∀ s, s ∈ ws ↔ s ∈ G2.map Prod.fst) := fun s => by rw [← hws]; exact (srtW_perm _).mem_iff
        obtain ⟨m, hm⟩ : ∃ m, m = ws.length := ⟨_, rfl⟩
        rw [← hm] at he
        subst he
        have Hm := Lib.hid hm
        have hml : m ≤ 200 := by rw [hm, ← hws, srtW_len, List.length_map]; exact hgl2
        have S : Mem w0 w7 (logP X K l.length ck (.slice A0 qs.length c0) B qs AT La GN (.mapG keyStr GN Lg :: othP X2 K2 n2 ck2 (.slice A2 q2.length c2) B2 q2 AT2 L2 GN2 G2 (.sl rStr Aw ws :: .sl rEQ A9 come :: ch))) := (HS2.out.join T9).perm (perm_tail _ _ _ _ _ _ _ _ _ _ _ _)
        have Hrm0 := Lib.hid (Hrm.out ws)
        clear hws hm HS2 T9 Hrt hf1 hw3 hf2 Hrm hnx
        go_wp2_with fail
        go_loopw [78] (fun i wr => ∃ (j : Nat) (v' : Value) (qs' : List EQ) (La' Lg' : List (ByteArray × Value)), j ≤ m ∧ i = .int .i64 j ∧ Hid (RemP qs Lg ws j qs' La' Lg') ∧ Mem w0 wr (logP X K l.length ck v' B qs' AT La' GN (.mapG keyStr GN Lg' :: othP X2 K2 n2 ck2 (.slice A2 q2.length c2) B2 q2 AT2 L2 GN2 G2 (.sl rStr Aw ws :: .sl rEQ A9 come :: ch)))) (fun i _ => m - (intOf i).toNat)
        case atStart => exact ⟨0, _, qs, La, Lg, Nat.zero_le _, rfl, Hrm0, S⟩
        case round =>
          clear S Hrm0
          obtain ⟨j, v', qs', La', Lg', hj, rfl, HP, S⟩ := hrel
          by_cases hlt : j < m
          · obtain ⟨s, hs⟩ : ∃ s, ws[j]? = some s := ⟨_, List.getElem?_eq_getElem (by have := Hm.out; omega)⟩
            obtain ⟨blk, off, hA, hblk, d0⟩ := (S.slc 10 rfl).str j s hs
            subst hA
            have Hs := Lib.hid hs
            have x0 := (S.lv 0 rfl).all
            have Hnd : Hid ((La'.map Prod.fst).Nodup) := MapG.nodupJ (S.ok (.mapG keyStr AT La') (.tail _ (.tail _ (.tail _ (.head _)))))
            have Htk : Hid (∀ w', Mem w0 w' (logP X K l.length ck v' B qs' AT La' GN (.mapG keyStr GN (updG s (.bool true) Lg') :: othP X2 K2 n2 ck2 (.slice A2 q2.length c2) B2 q2 AT2 L2 GN2 G2 (.sl rStr (some ⟨blk, off, none⟩) ws :: .sl rEQ A9 come :: ch))) → Calls Tryz.prog 60 #[.pointer (some ⟨X, 0, none⟩), .string s] w' (GivesTake X K l.length ck v' B qs' AT La' GN s w0 (.mapG keyStr GN (updG s (.bool true) Lg') :: othP X2 K2 n2 ck2 (.slice A2 q2.length c2) B2 q2 AT2 L2 GN2 G2 (.sl rStr (some ⟨blk, off, none⟩) ws :: .sl rEQ A9 come :: ch)))) := fun w' S' =>
              take_log _ X K l.length ck v' B qs' AT La' GN s S' HP.out.tm HP.out.lo (by have := HP.out.ln; omega)
            have HS := Lib.hid S
            clear hs S
            go_wp2_with (at_mapUpdate; refine HS.out.putG 4 rfl (T := 81) (E := 4) (by kernel_rfl) rfl _ _ _ rfl rfl s rfl (.bool true) rfl ?_; intro w3 S3)
            have Ht := Lib.hid (Htk.out w3 S3)
            clear S3 HS x0 Htk d0 hblk
            refine (Ht.out).mono ?_
            rintro e w4 (⟨hn, rfl, S5⟩ | ⟨i, q, v8, hi, hid, rfl, S5⟩)
            · have HP2 := Lib.hid (HP.out.none Hs.out hn)
              have HS5 := Lib.hid S5
              clear S5 hn Ht
              go_wp2_with fail
              go_roundw
              case rel => exact ⟨j + 1, v', qs', La', _, by omega, by go_num, HP2, HS5.out⟩
              case measure => simp [intOf]; omega
            · have HP2 := Lib.hid (HP.out.some Hs.out Hnd.out hi hid)
              have HS5 := Lib.hid S5
              clear S5 hi hid Ht
              go_wp2_with fail
              go_roundw
              case rel => exact ⟨j + 1, v8, _, _, _, by omega, by go_num, HP2, HS5.out⟩
              case measure => simp [intOf]; omega
          · have hjm : j = m := by omega
            subst hjm
            have HP0 : Hid (PutP qs' come 0 qs' La') := PutP.start HP.out.lo HP.out.tm
            have hql := HP.out.ln
            go_wp2_with fail
            go_loopw [93] (fun i wr => ∃ (k : Nat) (v8 : Value) (qr : List EQ) (Lr : List (ByteArray × Value)), k ≤ come.length ∧ i = .int .i64 k ∧ Hid (PutP qs' come k qr Lr) ∧ Mem w0 wr (logP X K l.length ck v8 B qr AT Lr GN (.mapG keyStr GN Lg' :: othP X2 K2 n2 ck2 (.slice A2 q2.length c2) B2 q2 AT2 L2 GN2 G2 (.sl rStr Aw ws :: .sl rEQ A9 come :: ch)))) (fun i _ => come.length - (intOf i).toNat)
            case atStart => exact ⟨0, v', qs', La', Nat.zero_le _, rfl, HP0, S⟩
            case round =>
              clear S HP0
              obtain ⟨k, v8, qr, Lr, hk, rfl, HQ, S⟩ := hrel
              by_cases hlt2 : k < come.length
              · obtain ⟨p, hp⟩ : ∃ p, come[k]? = some p := ⟨_, List.getElem?_eq_getElem hlt2⟩
                obtain ⟨blk, off, hA, hblk, d0, d1, d2, d3, d4, d5⟩ := hrowE (S.slc 11 rfl) hp
                subst hA
                have Hp := Lib.hid hp
                have hpm : p ∈ q2 ∧ comes (Lg.map Prod.fst) qs p = true := by
                  have h1 := List.mem_of_getElem? hp
                  rw [Hcm.out] at h1
                  exact List.mem_filter.1 h1
                have Hpm := Lib.hid hpm
                have hqr := HQ.out.ln
                have hF : Sl rFld (fun _ => False) ‹World› p.A p.e.flds := (S.fl 7 rfl p hpm.1).mono (fun _ _ h => h.elim)
                obtain ⟨E, hE⟩ : ∃ E, E = (‹World› : World).heap.size := ⟨_, rfl⟩
                have S1 := (S.newAt (evCs p.e p.A p.c) 47 E hE).perm (perm_tail _ _ _ _ _ _ _ _ _ _ _ _)
                clear S hp hpm hF
                go_upto_region 24 with fail
                rw [← hE]
                clear hE d0 d1 d2 d3 d4 d5 hblk
                generalize World.alloc _ _ = w8 at S1 ⊢
                have S2 : Mem w0 w8 (logP X K l.length ck v8 B qr AT Lr GN (.mapG keyStr GN Lg' :: othP X2 K2 n2 ck2 (.slice A2 q2.length c2) B2 q2 AT2 L2 GN2 G2 (.loc E (evCs p.e p.A p.c) 47 :: .sl rStr Aw ws :: .sl rEQ (some ⟨blk, off, none⟩) come :: ch))) := S1
                have Hpt := Lib.hid (put_log _ X K l.length ck v8 B qr AT Lr GN p.e p.A p.c S2 ((S2.fl 7 rfl p Hpm.out.1).mono (fun _ _ h => h.elim)) (Nat.le_trans (Hsm2.out p Hpm.out.1).fl (by decide)) HQ.out.lo (by omega) (Nat.le_trans hB (Nat.le_of_lt (S2.lv 0 rfl).lt)))
                have e0 := (S2.lv 10 rfl).all
                clear S1 S2
                go_wp2_with fail
                refine (Hpt.out).mono ?_
                rintro e w9 ⟨i, q, v7, rfl, hqx, hpl, S9⟩
                have hne : ∀ x ∈ qs', x.e.id ≠ p.e.id := fun x hx => (comes_iff.1 Hpm.out.2).2 x ((HP.out.ms x).1 hx).1
                have hidc : (come.map (fun q => q.e.id)).Nodup := by
                  rw [Hcm.out]
                  exact Hi2.out.sublist (List.filter_sublist.map _)
                have HQ2 := Lib.hid (HQ.out.next Hp.out hqx hidc hne hpl)
                have HS9 := Lib.hid (S9.del 10)
                clear Hpt e0 hqx hpl S9 hne hidc
                go_wp2_with fail
                go_roundw
                case rel => exact ⟨k + 1, v7, _, _, by omega, by go_num, HQ2, HS9.out⟩
                case measure => simp [intOf]; omega
              · have hkc : come.length ≤ k := by omega
                obtain ⟨A5, c5, e5⟩ := (S.ow 1 rfl).len
                subst e5
                have Hj := Lib.hid (HP.out.joined HQ.out (Nat.le_of_eq Hm.out.symm) hkc Hws.out Hcm.out)
                have x0 := (S.lv 0 rfl).all
                have HS9 := Lib.hid ((S.del 11).del 10)
                clear S hkc hk
                go_wp2_with fail
                go_ret2
                exact ⟨(qr.length : Int), 0, rfl, Hto.out, .inr ⟨rfl, _, qr, Lr, Lg', rfl, Hj.out, HS9.out⟩⟩
      · obtain ⟨nm, val⟩ := pq
        simp only [show keyStr.kv nm = Value.string nm from rfl] at hnx hen
        have HRg2 := Lib.hid hrg
        have Hsz2 : Hid (iterLeft es Zr w6 = left'.length) := S5.iterSize 0 rfl hrg
        have Hll := Lib.hid hll
        have S6 : Mem w4 w6 [.iter Zr GN2 clock seen' clock] := S5
        have hg1 := Hgn.out nm w6 S6.b
        obtain ⟨z, hh, hg2⟩ := Hlk.out nm w6 S6.b
        have x0 := (HXl.out w6 S6.b).all
        obtain ⟨gg, hgg⟩ : ∃ gg, hasId (Lg.map Prod.fst) nm = gg := ⟨_, rfl⟩
        rw [hgg] at hg1
        have hw1 : IntKind.i64.wrap (a + 1) = a + 1 := by rw [IntKind.wrap_i64]; omega
        have hw2 : IntKind.i64.wrap (b - 1) = b - 1 := by rw [IntKind.wrap_i64]; omega
        have HS6 := Lib.hid S6
        have hdl2 : (dq ++ [(nm, val)]).length = dq.length + 1 := by simp
        clear hrg hpm hll S3 S5 hgg S6
        cases gg <;> cases hh <;>
        · go_wp2_with fail
          go_roundw
          case rel => exact ⟨_, _, seen', dq ++ [(nm, val)], left', rfl, rfl, (by refine ⟨?_, ?_, ?_, ?_⟩ <;> (try rw [hdl2]) <;> push_cast <;> omega), HRg2, HS6.out⟩
          case measure => rw [Hsz2.out, hsz3.out]; have := Hll.out; omega
  · have Hn : Hid (er ≠ 0) := her
    have HS2 := Lib.hid (HS.out.below T.b)
    clear HS T
    go_wp2_with fail
    go_ret2
    exact ⟨0, er, rfl, Hto.out, .inl ⟨Hn.out, rfl, HS2.out⟩⟩
end Go.Proofs.YtmlpkejeglpciaaGreatDoor

/- The plain law of the reference's join: what it keeps of both lists, and of both lists of words. No program is in sight. -/
namespace Go.Proofs.YtmlpkejeglpciaaGreatDoor
open Go Go.RowKit
theorem nd_same {qs : List EQ} (hid : (qs.map (fun q => q.e.id)).Nodup) {i j : Nat} {p q : EQ} (hi : qs[i]? = some p) (hj : qs[j]? = some q) (e : p.e.id = q.e.id) : i = j := by
  have h2 := List.pairwise_iff_getElem.1 hid
  obtain ⟨a1, a2⟩ := List.getElem?_eq_some_iff.1 hi
  obtain ⟨b1, b2⟩ := List.getElem?_eq_some_iff.1 hj
  rcases Nat.lt_trichotomy i j with h | h | h
  · have h3 := h2 i j (by rw [List.length_map]; exact a1) (by rw [List.length_map]; exact b1) h
    rw [List.getElem_map, List.getElem_map, a2, b2] at h3
    exact absurd e h3
  · exact h
  · have h3 := h2 j i (by rw [List.length_map]; exact b1) (by rw [List.length_map]; exact a1) h
    rw [List.getElem_map, List.getElem_map, a2, b2] at h3
    exact absurd e.symm h3
theorem nd_eq {qs : List EQ} (hid : (qs.map (fun q => q.e.id)).Nodup) {p q : EQ} (hp : p ∈ qs) (hq : q ∈ qs) (e : p.e.id = q.e.id) : p = q := by
  obtain ⟨i, hi⟩ := List.mem_iff_getElem?.1 hp
  obtain ⟨j, hj⟩ := List.mem_iff_getElem?.1 hq
  obtain rfl := nd_same hid hi hj e
  exact Option.some.inj (hi.symm.trans hj)
structure GP (cat : List ByteArray) (j : Nat) (gz : List ByteArray) : Prop where
  nd : gz.Nodup
  ms : ∀ s, s ∈ gz ↔ s ∈ cat.take j
  ln : gz.length ≤ j
theorem GP.start (cat : List ByteArray) : GP cat 0 [] := ⟨.nil, fun s => by simp, Nat.le_refl _⟩
theorem GP.skip {cat gz : List ByteArray} {j : Nat} {s : ByteArray} (h : GP cat j gz) (hs : cat[j]? = some s) (hm : s ∈ gz) : GP cat (j + 1) gz :=
  ⟨h.nd, fun x => by
    rw [take_snoc hs, List.mem_append, List.mem_singleton, h.ms]
    exact ⟨.inl, fun h2 => h2.elim id (fun e => by rw [e]; exact (h.ms s).1 hm)⟩, by have := h.ln; omega⟩
theorem GP.add {cat gz : List ByteArray} {j : Nat} {s : ByteArray} (h : GP cat j gz) (hs : cat[j]? = some s) (hm : s ∉ gz) : GP cat (j + 1) (gz ++ [s]) :=
  ⟨List.nodup_append.2 ⟨h.nd, List.pairwise_singleton _ _, fun a ha b hb e => by rw [List.mem_singleton.1 hb] at e; rw [e] at ha; exact hm ha⟩, fun x => by
    rw [take_snoc hs, List.mem_append, List.mem_append, List.mem_singleton, h.ms], by rw [List.length_append, List.length_singleton]; have := h.ln; omega⟩
structure ZP (ps p2 : List EQ) (gn g2 : List ByteArray) (j : Nat) (zs : List EQ) : Prop where
  nd : (zs.map (fun q => q.e.id)).Nodup
  ms : ∀ e, e ∈ zs.map EQ.e ↔ (e ∈ (ps.take j).map EQ.e ∧ e.id ∉ g2) ∨ (e ∈ (p2.take (j - ps.length)).map EQ.e ∧ e.id ∉ gn ∧ ∀ o ∈ ps.map EQ.e, o.id ≠ e.id)
  su : ∀ q ∈ zs, q ∈ ps ∨ q ∈ p2
  ln : zs.length ≤ j
theorem ZP.start (ps p2 : List EQ) (gn g2 : List ByteArray) : ZP ps p2 gn g2 0 [] := ⟨.nil, fun e => by simp, fun _ h => by (cases h), Nat.le_refl _⟩
section
variable {ps p2 zs : List EQ} {gn g2 : List ByteArray} {j : Nat} {q : EQ}
theorem cat_cases (hq : (ps ++ p2)[j]? = some q) : (j < ps.length ∧ ps[j]? = some q) ∨ (ps.length ≤ j ∧ p2[j - ps.length]? = some q) := by
  rcases Nat.lt_or_ge j ps.length with h | h
  · exact .inl ⟨h, by rwa [List.getElem?_append_left h] at hq⟩
  · exact .inr ⟨h, by rwa [List.getElem?_append_right h] at hq⟩
theorem take_in {l : List EQ} {k : Nat} {e : Evt} (h : e ∈ (l.take k).map EQ.e) : ∃ (i : Nat) (p : EQ), i < k ∧ l[i]? = some p ∧ p.e = e := by
  obtain ⟨p, hp, rfl⟩ := List.mem_map.1 h
  obtain ⟨i, hi⟩ := List.mem_iff_getElem?.1 hp
  have hl := (List.getElem?_eq_some_iff.1 hi).1
  rw [List.length_take] at hl
  rw [List.getElem?_take_of_lt (by omega)] at hi
  exact ⟨i, p, by omega, hi, rfl⟩
theorem ZP.skip (h : ZP ps p2 gn g2 j zs) (hpn : (ps.map (fun q => q.e.id)).Nodup) (hp2 : (p2.map (fun q => q.e.id)).Nodup) (hap : ∀ p ∈ ps, p.e.id ∉ gn) (hap2 : ∀ p ∈ p2, p.e.id ∉ g2) (hq : (ps ++ p2)[j]? = some q) (hs : (∃ z ∈ zs, z.e.id = q.e.id) ∨ q.e.id ∈ gn ∨ q.e.id ∈ g2) : ZP ps p2 gn g2 (j + 1) zs := by
  refine ⟨h.nd, fun e => ?_, h.su, by have := h.ln; omega⟩
  rw [h.ms]
  rcases cat_cases hq with ⟨hj, hq⟩ | ⟨hj, hq⟩
  · rw [take_snoc hq, List.map_append, List.mem_append, List.map_singleton, List.mem_singleton, show j - ps.length = 0 by omega, show j + 1 - ps.length = 0 by omega]
    have hno : q.e.id ∈ g2 := by
      rcases hs with ⟨z, hz, he⟩ | hs | hs
      · rcases (h.ms z.e).1 (List.mem_map_of_mem hz) with ⟨h1, _⟩ | ⟨h1, _⟩
        · obtain ⟨i, p, hi, hpi, hpe⟩ := take_in h1
          have := nd_same hpn hpi hq (by rw [hpe]; exact he)
          omega
        · rw [show j - ps.length = 0 by omega] at h1; simp at h1
      · exact absurd hs (hap q (List.mem_of_getElem? hq))
      · exact hs
    constructor
    · rintro (⟨h1, h2⟩ | h1)
      · exact .inl ⟨.inl h1, h2⟩
      · exact .inr h1
    · rintro (⟨h1 | h1, h2⟩ | h1)
      · exact .inl ⟨h1, h2⟩
      · rw [h1] at h2; exact absurd hno h2
      · exact .inr h1
  · rw [List.take_of_length_le (by omega : ps.length ≤ j), List.take_of_length_le (by omega : ps.length ≤ j + 1), show j + 1 - ps.length = j - ps.length + 1 by omega, take_snoc hq, List.map_append, List.mem_append, List.map_singleton, List.mem_singleton]
    have hno : ¬ (q.e.id ∉ gn ∧ ∀ o ∈ ps.map EQ.e, o.id ≠ q.e.id) := by
      rintro ⟨h5, h6⟩
      rcases hs with ⟨z, hz, he⟩ | hs | hs
      · rcases (h.ms z.e).1 (List.mem_map_of_mem hz) with ⟨h1, _⟩ | ⟨h1, _⟩
        · obtain ⟨i, p, _, hpi, hpe⟩ := take_in h1
          exact h6 p.e (List.mem_map_of_mem (List.mem_of_getElem? hpi)) (by rw [hpe]; exact he)
        · obtain ⟨i, p, hi, hpi, hpe⟩ := take_in h1
          have := nd_same hp2 hpi hq (by rw [hpe]; exact he)
          omega
      · exact h5 hs
      · exact hap2 q (List.mem_of_getElem? hq) hs
    constructor
    · rintro (h1 | ⟨h1, h2⟩)
      · exact .inl h1
      · exact .inr ⟨.inl h1, h2⟩
    · rintro (h1 | ⟨h1 | h1, h2⟩)
      · exact .inl h1
      · exact .inr ⟨h1, h2⟩
      · rw [h1] at h2; exact absurd h2 hno
theorem ZP.add (h : ZP ps p2 gn g2 j zs) (hq : (ps ++ p2)[j]? = some q) (hn : ∀ z ∈ zs, z.e.id ≠ q.e.id) (h1 : q.e.id ∉ gn) (h2 : q.e.id ∉ g2) : ZP ps p2 gn g2 (j + 1) (zs ++ [q]) := by
  refine ⟨?_, fun e => ?_, fun x hx => ?_, by rw [List.length_append, List.length_singleton]; have := h.ln; omega⟩
  · rw [List.map_append, List.map_singleton]
    refine List.nodup_append.2 ⟨h.nd, List.pairwise_singleton _ _, fun a ha b hb e => ?_⟩
    obtain ⟨z, hz, rfl⟩ := List.mem_map.1 ha
    rw [List.mem_singleton.1 hb] at e
    exact hn z hz e
  · rw [List.map_append, List.mem_append, List.map_singleton, List.mem_singleton, h.ms]
    rcases cat_cases hq with ⟨hj, hq⟩ | ⟨hj, hq⟩
    · rw [take_snoc hq, List.map_append, List.mem_append, List.map_singleton, List.mem_singleton, show j - ps.length = 0 by omega, show j + 1 - ps.length = 0 by omega]
      constructor
      · rintro ((⟨h3, h4⟩ | h3) | rfl)
        · exact .inl ⟨.inl h3, h4⟩
        · exact .inr h3
        · exact .inl ⟨.inr rfl, h2⟩
      · rintro (⟨h3 | h3, h4⟩ | h3)
        · exact .inl (.inl ⟨h3, h4⟩)
        · exact .inr h3
        · exact .inl (.inr h3)
    · rw [List.take_of_length_le (by omega : ps.length ≤ j), List.take_of_length_le (by omega : ps.length ≤ j + 1), show j + 1 - ps.length = j - ps.length + 1 by omega, take_snoc hq, List.map_append, List.mem_append, List.map_singleton, List.mem_singleton]
      have hno : ∀ o ∈ ps.map EQ.e, o.id ≠ q.e.id := fun o ho e => by
        have h5 := (h.ms o).2 (.inl ⟨by rw [List.take_of_length_le (by omega : ps.length ≤ j)]; exact ho, by rw [e]; exact h2⟩)
        obtain ⟨z, hz, he⟩ := List.mem_map.1 h5
        exact hn z hz (by rw [he]; exact e)
      constructor
      · rintro ((h3 | ⟨h3, h4⟩) | rfl)
        · exact .inl h3
        · exact .inr ⟨.inl h3, h4⟩
        · exact .inr ⟨.inr rfl, h1, hno⟩
      · rintro (h3 | ⟨h3 | h3, h4⟩)
        · exact .inl (.inl h3)
        · exact .inl (.inr ⟨h3, h4⟩)
        · exact .inr h3
  · rcases List.mem_append.1 hx with h3 | h3
    · exact h.su x h3
    · rw [List.mem_singleton.1 h3]
      rcases cat_cases hq with ⟨_, hq⟩ | ⟨_, hq⟩
      · exact .inl (List.mem_of_getElem? hq)
      · exact .inr (List.mem_of_getElem? hq)
end
structure JoinedR (ps : List EQ) (gn : List ByteArray) (p2 : List EQ) (g2 : List ByteArray) (ps' : List EQ) (gn' : List ByteArray) : Prop where
  pn : ((ps'.map EQ.e).map Evt.id).Nodup
  gd : gn'.Nodup
  gs : ∀ s, s ∈ gn' ↔ s ∈ gn ∨ s ∈ g2
  ms : ∀ e, e ∈ ps'.map EQ.e ↔ JoinOf (ps.map EQ.e) gn (p2.map EQ.e) g2 e
  su : ∀ q ∈ ps', q ∈ ps ∨ q ∈ p2
  ln : ps'.length ≤ ps.length + p2.length
  gl : gn'.length ≤ gn.length + g2.length
theorem ZP.joined {ps p2 zs : List EQ} {gn g2 gz : List ByteArray} (h : ZP ps p2 gn g2 (ps ++ p2).length zs) (hg : GP (gn ++ g2) (gn ++ g2).length gz) : JoinedR ps gn p2 g2 zs gz := by
  refine ⟨by rw [List.map_map]; exact h.nd, hg.nd, fun s => by rw [hg.ms, List.take_length, List.mem_append], fun e => ?_, h.su, by have := h.ln; rwa [List.length_append] at this, by have := hg.ln; rwa [List.length_append] at this⟩
  rw [h.ms, List.length_append, List.take_of_length_le (by omega), List.take_of_length_le (by omega)]
  rfl
end Go.Proofs.YtmlpkejeglpciaaGreatDoor

/- slices.Concat of two lists of words, and of events. -/
namespace Go.Proofs.YtmlpkejeglpciaaGreatDoor
open Go Go.RowKit
def sumCt (a s : Nat) : Nat → Nat
  | 0 => 0
  | 1 => a
  | _ => s
def appCt {α : Type} (l1 l2 : List α) : Nat → List α
  | 0 => []
  | 1 => l1
  | _ => l1 ++ l2
set_option maxHeartbeats 4000000 in
set_option maxRecDepth 100000 in
theorem growCW_any (n : Nat) (hn : n ≤ 100000) (w : World) :
    Calls Tryz.prog 136 #[.slice none 0 0, .int .i64 n] w fun e w' => ∃ v, e = .returned v ∧ Mem w w' [.own rStr w.heap.size 9 v []] := by
  obtain ⟨i0, hi0, hz0, hz1, hz2⟩ := info_parts tyStrs.info
  have hsz := hz1
  have hby := hz2
  by_cases h0 : 0 < n
  · have hwr : IntKind.i64.wrap ((n : Int) - 0) = n := IntWalk.i64_in _ (by omega)
    have hwr2 : IntKind.i64.wrap (n : Int) = n := IntWalk.i64_in _ (by omega)
    have hgt : decide ((n : Int) > 0) = true := decide_eq_true (by omega)
    have hnl : decide ((n : Int) < 0) = false := decide_eq_false (by omega)
    have hold : (Builtin.firstCells i0.size 0 (.slice none 0 0)).run Tryz.prog w.drew = .ok ([] : List Value).toArray w.drew := run_firstCells_none w.drew i0.size 0 0 0
    have hr : ∀ ty, (Builtin.append_ #[37, 3] ty #[.slice none 0 0, .int .i64 n]).run Tryz.prog w = _ := fun ty => by
      have h := Lib.run_append_grow_zeros (P := Tryz.prog) w 37 3 ty 9 i0 _ .i64 .i64 tyStrs.under (by kernel_rfl) hi0 hz0 none 0 0 [] hold n h0 (by rw [hsz]; exact tyStrs.pos) (by omega) (by omega) (by rw [hby]; omega) (growslice_fits (by omega) (by rw [hby]; omega))
      exact h
    obtain ⟨G, hG⟩ : ∃ G, G = grownCap w (0 + n) 0 9 := ⟨_, rfl⟩
    have hGn : n ≤ G := by have := grownCap_ge w (0 + n) 0 9; omega
    have hGm : G ≤ maxLen := by rw [hG]; exact grownCap_le_maxLen w (0 + n) 0 9 (by unfold maxLen; omega)
    rw [← hG] at hr
    obtain ⟨cells, hcs⟩ : ∃ cells, cells = (([] : List Value).toArray ++ Builtin.zeroCells (Value.string ⟨#[]⟩).cells n ++ Builtin.zeroCells (Value.string ⟨#[]⟩).cells (G - (0 + n))) := ⟨_, rfl⟩
    have hsc : cells.size = G * rStr.size := by
      rw [hcs, Array.size_append, Array.size_append, size_zeroCells, size_zeroCells, tyStrs.zsize]
      show 0 + n * rStr.size + (G - (0 + n)) * rStr.size = G * rStr.size
      rw [Nat.zero_add, Nat.zero_add, ← Nat.add_mul]
      congr 1
      omega
    have hr2 : ∀ ty, (Builtin.append_ #[37, 3] ty #[.slice none 0 0, .int .i64 n]).run Tryz.prog w = .ok (.slice (some ⟨w.heap.size, 0, none⟩) (0 + n) G) (w.drew.alloc (.cells cells 9)) := fun ty => by rw [hr ty, hcs]
    have S := (Mem.start w).newAt cells 9 w.heap.size rfl
    have S2 := S.room (r := rStr) 0 rfl rfl hGm hsc
    have HS := Lib.hid (S2.below (RowKit.Below.refl _ _).drew)
    clear hr hcs S S2 hold hG hsc
    go_enter Tryz.func136, Tryz.ntmps136
    go_wp2_with (at_builtin; refine Lib.wpList_append_run _ rfl _ _ _ _ rfl _ _ rfl rfl _ _ (hr2 _) ?_)
    all_goals (go_ret; exact ⟨_, rfl, HS.out⟩)
  · obtain rfl : n = 0 := by omega
    go_enter Tryz.func136, Tryz.ntmps136
    go_wp2_with fail
    go_ret
    exact ⟨_, rfl, (Mem.start w).nil rStr w.heap.size 9⟩
def GivesOwnCW (l : List ByteArray) (w : World) (e : Ending) (w' : World) : Prop := ∃ v, e = .returned v ∧ Mem w w' [.own rStr w.heap.size 9 v l]
set_option maxHeartbeats 4000000 in
set_option maxRecDepth 100000 in
theorem concatW_any (X : Nat) (A1 A2 : Option Addr) (l1 l2 : List ByteArray) (c1 c2 : Nat) (w : World) (hX : LV w X #[.slice A1 l1.length c1, .slice A2 l2.length c2] 37) (h1 : Sl rStr (fun _ => False) w A1 l1) (h2 : Sl rStr (fun _ => False) w A2 l2) (hl1 : l1.length ≤ 1000) (hl2 : l2.length ≤ 1000) :
    Calls Tryz.prog 62 #[.slice (some ⟨X, 0, none⟩) 2 2] w (GivesOwnCW (l1 ++ l2) w) := by
  obtain ⟨n1, hn1⟩ : ∃ n1, l1.length = n1 := ⟨_, rfl⟩
  obtain ⟨n2, hn2⟩ : ∃ n2, l2.length = n2 := ⟨_, rfl⟩
  rw [hn1] at hX hl1
  rw [hn2] at hX hl2
  have HX : Hid (∀ w', Below w.heap.size w w' → LV w' X #[.slice A1 n1 c1, .slice A2 n2 c2] 37) := fun w' h => (h.block X hX.lt).trans hX
  have H1 := Lib.hid (fun w' (h : Below w.heap.size w w') => h1.keepB h)
  have H2 := Lib.hid (fun w' (h : Below w.heap.size w w') => h2.keepB h)
  have c0 := hX.all
  clear hX h1 h2
  obtain ⟨n3, hn3⟩ : ∃ n3 : Nat, n3 = n1 + n2 := ⟨_, rfl⟩
  have Hn1 := Lib.hid hn1
  have Hn2 := Lib.hid hn2
  have hn31 : n3 ≤ 2000 := by omega
  have HG := Lib.hid (growCW_any n3 (by omega) w)
  have hw1 : IntKind.i64.wrap (n1 : Int) = n1 := IntWalk.i64_in _ (by omega)
  have hw2 : IntKind.i64.wrap ((n1 : Int) + n2) = n3 := by rw [hn3]; exact IntWalk.i64_in _ (by omega)
  have hd1 : decide ((n1 : Int) < 0) = false := decide_eq_false (by omega)
  have hd3 : decide ((n3 : Int) < 0) = false := decide_eq_false (by omega)
  clear hn1 hn2 hn3
  go_enter Tryz.func62, Tryz.ntmps62
  go_wp2_with fail
  go_loopw [3, 11] (fun a i wr => ∃ j : Nat, j ≤ 2 ∧ i = .int .i64 j ∧ a = .int .i64 (sumCt n1 n3 j) ∧ w = wr) (fun _ i _ => 2 - (intOf i).toNat)
  case atStart => exact ⟨0, by omega, rfl, rfl, rfl⟩
  case round =>
    obtain ⟨j, hj, rfl, rfl, rfl⟩ := hrel
    rcases (by omega : j = 0 ∨ j = 1 ∨ j = 2) with rfl | rfl | rfl
    · simp only [sumCt]
      go_wp2_with fail
      go_roundw
      case rel => exact ⟨1, by omega, by go_num, rfl, trivial⟩
      case measure => simp [intOf]
    · simp only [sumCt]
      go_wp2_with fail
      go_roundw
      case rel => exact ⟨2, by omega, by go_num, rfl, trivial⟩
      case measure => simp [intOf]
    · simp only [sumCt]
      clear c0
      go_wp2_with fail
      refine (HG.out).mono ?_
      rintro e w2 ⟨v, rfl, S⟩
      clear HG
      go_wp2_with fail
      go_loopw [6, 27] (fun v i wr => ∃ j : Nat, j ≤ 2 ∧ i = .int .i64 j ∧ Mem w wr [.own rStr w.heap.size 9 v (appCt l1 l2 j)]) (fun _ i _ => 2 - (intOf i).toNat)
      case atStart => exact ⟨0, by omega, rfl, S⟩
      case round =>
        clear S
        obtain ⟨j, hj, rfl, S⟩ := hrel
        have c0 := (HX.out wr S.b).all
        have hsz := S.b.size
        rcases (by omega : j = 0 ∨ j = 1 ∨ j = 2) with rfl | rfl | rfl
        · have HS := Lib.hid S
          clear S
          cases A1 with
          | none =>
            obtain rfl := Sl.nilOf (H1.out wr HS.out.b)
            obtain rfl : n1 = 0 := Hn1.out.symm
            rcases (HS.out.ow 0 rfl).shape2 with ⟨rfl, _⟩ | ⟨g, cap, rfl, _⟩
            · go_wp2_with fail
              go_roundw
              case rel => exact ⟨1, by omega, by go_num, HS.out⟩
              case measure => simp [intOf]
            · simp only [appCt, List.length_nil]
              go_wp2_with fail
              go_roundw
              case rel => exact ⟨1, by omega, by go_num, HS.out⟩
              case measure => simp [intOf]
          | some ad =>
            have Hc := Lib.hid (Sl.flatCells flatStr (fun _ => rfl) (H1.out wr HS.out.b))
            go_wp2_with (at_builtin; refine HS.out.appN flatStr 0 rfl tyStrs rfl _ _ rfl l1 n1 c1 Hn1.out.symm rfl ad rfl Hc.out (fun y _ => oneStrs y) (fun _ => rfl) hsz (by simp only [appCt, List.length_nil]; rw [Hn1.out]; omega) (by decide) ?_; intro v5 w5 S5)
            go_roundw
            case rel => exact ⟨1, by omega, by go_num, S5⟩
            case measure => simp [intOf]
        · have HS := Lib.hid S
          clear S
          cases A2 with
          | none =>
            obtain rfl := Sl.nilOf (H2.out wr HS.out.b)
            obtain rfl : n2 = 0 := Hn2.out.symm
            have HS1 : Hid (∀ {v : Value}, Mem w wr [.own rStr w.heap.size 9 v (appCt l1 [] 1)] → Mem w wr [.own rStr w.heap.size 9 v (appCt l1 [] 2)]) := fun {v} h => by rw [show appCt l1 [] 2 = appCt l1 [] 1 by simp [appCt]]; exact h
            rcases (HS.out.ow 0 rfl).shape2 with ⟨hv, _⟩ | ⟨g, cap, hv, hc⟩
            · subst hv
              go_wp2_with fail
              go_roundw
              case rel => exact ⟨2, by omega, by go_num, HS1.out HS.out⟩
              case measure => simp [intOf]
            · rw [show (appCt l1 [] 1).length = n1 from Hn1.out] at hv hc
              subst hv
              go_wp2_with fail
              go_roundw
              case rel => exact ⟨2, by omega, by go_num, HS1.out HS.out⟩
              case measure => simp [intOf]
          | some ad =>
            have Hc := Lib.hid (Sl.flatCells flatStr (fun _ => rfl) (H2.out wr HS.out.b))
            go_wp2_with (at_builtin; refine HS.out.appN flatStr 0 rfl tyStrs rfl _ _ rfl l2 n2 c2 Hn2.out.symm rfl ad rfl Hc.out (fun y _ => oneStrs y) (fun _ => rfl) hsz (by simp only [appCt]; rw [Hn1.out, Hn2.out]; omega) (by decide) ?_; intro v5 w5 S5)
            go_roundw
            case rel => exact ⟨2, by omega, by go_num, S5⟩
            case measure => simp [intOf]
        · go_wp2_with fail
          go_ret
          exact ⟨_, rfl, S⟩
set_option maxHeartbeats 4000000 in
set_option maxRecDepth 100000 in
theorem growCE_any (n : Nat) (hn : n ≤ 100000) (w : World) :
    Calls Tryz.prog 137 #[.slice none 0 0, .int .i64 n] w fun e w' => ∃ v, e = .returned v ∧ Mem w w' [.own rEQ w.heap.size 47 v []] := by
  obtain ⟨i0, hi0, hz0, hz1, hz2⟩ := info_parts tyEvt.info
  have hsz := hz1
  have hby := hz2
  by_cases h0 : 0 < n
  · have hwr : IntKind.i64.wrap ((n : Int) - 0) = n := IntWalk.i64_in _ (by omega)
    have hwr2 : IntKind.i64.wrap (n : Int) = n := IntWalk.i64_in _ (by omega)
    have hgt : decide ((n : Int) > 0) = true := decide_eq_true (by omega)
    have hnl : decide ((n : Int) < 0) = false := decide_eq_false (by omega)
    have hold : (Builtin.firstCells i0.size 0 (.slice none 0 0)).run Tryz.prog w.drew = .ok ([] : List Value).toArray w.drew := run_firstCells_none w.drew i0.size 0 0 0
    have hr : ∀ ty, (Builtin.append_ #[36, 3] ty #[.slice none 0 0, .int .i64 n]).run Tryz.prog w = _ := fun ty => by
      have h := Lib.run_append_grow_zeros (P := Tryz.prog) w 36 3 ty 47 i0 _ .i64 .i64 tyEvt.under (by kernel_rfl) hi0 hz0 none 0 0 [] hold n h0 (by rw [hsz]; exact tyEvt.pos) (by omega) (by omega) (by rw [hby]; omega) (growslice_fits (by omega) (by rw [hby]; omega))
      exact h
    obtain ⟨G, hG⟩ : ∃ G, G = grownCap w (0 + n) 0 47 := ⟨_, rfl⟩
    have hGn : n ≤ G := by have := grownCap_ge w (0 + n) 0 47; omega
    have hGm : G ≤ maxLen := by rw [hG]; exact grownCap_le_maxLen w (0 + n) 0 47 (by unfold maxLen; omega)
    rw [← hG] at hr
    obtain ⟨cells, hcs⟩ : ∃ cells, cells = (([] : List Value).toArray ++ Builtin.zeroCells (Value.agg #[.string ⟨#[]⟩, .string ⟨#[]⟩, .int .i64 0, .int .i64 0, .string ⟨#[]⟩, .slice none 0 0]).cells n ++ Builtin.zeroCells (Value.agg #[.string ⟨#[]⟩, .string ⟨#[]⟩, .int .i64 0, .int .i64 0, .string ⟨#[]⟩, .slice none 0 0]).cells (G - (0 + n))) := ⟨_, rfl⟩
    have hsc : cells.size = G * rEQ.size := by
      rw [hcs, Array.size_append, Array.size_append, size_zeroCells, size_zeroCells, tyEvt.zsize]
      show 0 + n * rEQ.size + (G - (0 + n)) * rEQ.size = G * rEQ.size
      rw [Nat.zero_add, Nat.zero_add, ← Nat.add_mul]
      congr 1
      omega
    have hr2 : ∀ ty, (Builtin.append_ #[36, 3] ty #[.slice none 0 0, .int .i64 n]).run Tryz.prog w = .ok (.slice (some ⟨w.heap.size, 0, none⟩) (0 + n) G) (w.drew.alloc (.cells cells 47)) := fun ty => by rw [hr ty, hcs]
    have S := (Mem.start w).newAt cells 47 w.heap.size rfl
    have S2 := S.room (r := rEQ) 0 rfl rfl hGm hsc
    have HS := Lib.hid (S2.below (RowKit.Below.refl _ _).drew)
    clear hr hcs S S2 hold hG hsc
    go_enter Tryz.func137, Tryz.ntmps137
    go_wp2_with (at_builtin; refine Lib.wpList_append_run _ rfl _ _ _ _ rfl _ _ rfl rfl _ _ (hr2 _) ?_)
    all_goals (go_ret; exact ⟨_, rfl, HS.out⟩)
  · obtain rfl : n = 0 := by omega
    go_enter Tryz.func137, Tryz.ntmps137
    go_wp2_with fail
    go_ret
    exact ⟨_, rfl, (Mem.start w).nil rEQ w.heap.size 47⟩
def GivesOwnCE (l : List EQ) (w : World) (e : Ending) (w' : World) : Prop := ∃ v, e = .returned v ∧ Mem w w' [.own rEQ w.heap.size 47 v l]
set_option maxHeartbeats 4000000 in
set_option maxRecDepth 100000 in
theorem concatE_any (X : Nat) (A1 A2 : Option Addr) (l1 l2 : List EQ) (c1 c2 : Nat) (w : World) (hX : LV w X #[.slice A1 l1.length c1, .slice A2 l2.length c2] 36) (h1 : Sl rEQ (fun _ => False) w A1 l1) (h2 : Sl rEQ (fun _ => False) w A2 l2) (hl1 : l1.length ≤ 1000) (hl2 : l2.length ≤ 1000) :
    Calls Tryz.prog 63 #[.slice (some ⟨X, 0, none⟩) 2 2] w (GivesOwnCE (l1 ++ l2) w) := by
  obtain ⟨n1, hn1⟩ : ∃ n1, l1.length = n1 := ⟨_, rfl⟩
  obtain ⟨n2, hn2⟩ : ∃ n2, l2.length = n2 := ⟨_, rfl⟩
  rw [hn1] at hX hl1
  rw [hn2] at hX hl2
  have HX : Hid (∀ w', Below w.heap.size w w' → LV w' X #[.slice A1 n1 c1, .slice A2 n2 c2] 36) := fun w' h => (h.block X hX.lt).trans hX
  have H1 := Lib.hid (fun w' (h : Below w.heap.size w w') => h1.keepB h)
  have H2 := Lib.hid (fun w' (h : Below w.heap.size w w') => h2.keepB h)
  have c0 := hX.all
  clear hX h1 h2
  obtain ⟨n3, hn3⟩ : ∃ n3 : Nat, n3 = n1 + n2 := ⟨_, rfl⟩
  have Hn1 := Lib.hid hn1
  have Hn2 := Lib.hid hn2
  have hn31 : n3 ≤ 2000 := by omega
  have HG := Lib.hid (growCE_any n3 (by omega) w)
  have hw1 : IntKind.i64.wrap (n1 : Int) = n1 := IntWalk.i64_in _ (by omega)
  have hw2 : IntKind.i64.wrap ((n1 : Int) + n2) = n3 := by rw [hn3]; exact IntWalk.i64_in _ (by omega)
  have hd1 : decide ((n1 : Int) < 0) = false := decide_eq_false (by omega)
  have hd3 : decide ((n3 : Int) < 0) = false := decide_eq_false (by omega)
  clear hn1 hn2 hn3
  go_enter Tryz.func63, Tryz.ntmps63
  go_wp2_with fail
  go_loopw [3, 11] (fun a i wr => ∃ j : Nat, j ≤ 2 ∧ i = .int .i64 j ∧ a = .int .i64 (sumCt n1 n3 j) ∧ w = wr) (fun _ i _ => 2 - (intOf i).toNat)
  case atStart => exact ⟨0, by omega, rfl, rfl, rfl⟩
  case round =>
    obtain ⟨j, hj, rfl, rfl, rfl⟩ := hrel
    rcases (by omega : j = 0 ∨ j = 1 ∨ j = 2) with rfl | rfl | rfl
    · simp only [sumCt]
      go_wp2_with fail
      go_roundw
      case rel => exact ⟨1, by omega, by go_num, rfl, trivial⟩
      case measure => simp [intOf]
    · simp only [sumCt]
      go_wp2_with fail
      go_roundw
      case rel => exact ⟨2, by omega, by go_num, rfl, trivial⟩
      case measure => simp [intOf]
    · simp only [sumCt]
      clear c0
      go_wp2_with fail
      refine (HG.out).mono ?_
      rintro e w2 ⟨v, rfl, S⟩
      clear HG
      go_wp2_with fail
      go_loopw [6, 27] (fun v i wr => ∃ j : Nat, j ≤ 2 ∧ i = .int .i64 j ∧ Mem w wr [.own rEQ w.heap.size 47 v (appCt l1 l2 j)]) (fun _ i _ => 2 - (intOf i).toNat)
      case atStart => exact ⟨0, by omega, rfl, S⟩
      case round =>
        clear S
        obtain ⟨j, hj, rfl, S⟩ := hrel
        have c0 := (HX.out wr S.b).all
        have hsz := S.b.size
        rcases (by omega : j = 0 ∨ j = 1 ∨ j = 2) with rfl | rfl | rfl
        · have HS := Lib.hid S
          clear S
          cases A1 with
          | none =>
            obtain rfl := Sl.nilOf (H1.out wr HS.out.b)
            obtain rfl : n1 = 0 := Hn1.out.symm
            rcases (HS.out.ow 0 rfl).shape2 with ⟨rfl, _⟩ | ⟨g, cap, rfl, _⟩
            · go_wp2_with fail
              go_roundw
              case rel => exact ⟨1, by omega, by go_num, HS.out⟩
              case measure => simp [intOf]
            · simp only [appCt, List.length_nil]
              go_wp2_with fail
              go_roundw
              case rel => exact ⟨1, by omega, by go_num, HS.out⟩
              case measure => simp [intOf]
          | some ad =>
            have Hc := Lib.hid (Sl.flatCells flatEQ (fun _ => rfl) (H1.out wr HS.out.b))
            go_wp2_with (at_builtin; refine HS.out.appN flatEQ 0 rfl tyEvt rfl _ _ rfl l1 n1 c1 Hn1.out.symm rfl ad rfl Hc.out (fun y _ => oneEQ y) (fun _ => rfl) hsz (by simp only [appCt, List.length_nil]; rw [Hn1.out]; omega) (by decide) ?_; intro v5 w5 S5)
            go_roundw
            case rel => exact ⟨1, by omega, by go_num, S5⟩
            case measure => simp [intOf]
        · have HS := Lib.hid S
          clear S
          cases A2 with
          | none =>
            obtain rfl := Sl.nilOf (H2.out wr HS.out.b)
            obtain rfl : n2 = 0 := Hn2.out.symm
            have HS1 : Hid (∀ {v : Value}, Mem w wr [.own rEQ w.heap.size 47 v (appCt l1 [] 1)] → Mem w wr [.own rEQ w.heap.size 47 v (appCt l1 [] 2)]) := fun {v} h => by rw [show appCt l1 [] 2 = appCt l1 [] 1 by simp [appCt]]; exact h
            rcases (HS.out.ow 0 rfl).shape2 with ⟨hv, _⟩ | ⟨g, cap, hv, hc⟩
            · subst hv
              go_wp2_with fail
              go_roundw
              case rel => exact ⟨2, by omega, by go_num, HS1.out HS.out⟩
              case measure => simp [intOf]
            · rw [show (appCt l1 [] 1).length = n1 from Hn1.out] at hv hc
              subst hv
              go_wp2_with fail
              go_roundw
              case rel => exact ⟨2, by omega, by go_num, HS1.out HS.out⟩
              case measure => simp [intOf]
          | some ad =>
            have Hc := Lib.hid (Sl.flatCells flatEQ (fun _ => rfl) (H2.out wr HS.out.b))
            go_wp2_with (at_builtin; refine HS.out.appN flatEQ 0 rfl tyEvt rfl _ _ rfl l2 n2 c2 Hn2.out.symm rfl ad rfl Hc.out (fun y _ => oneEQ y) (fun _ => rfl) hsz (by simp only [appCt]; rw [Hn1.out, Hn2.out]; omega) (by decide) ?_; intro v5 w5 S5)
            go_roundw
            case rel => exact ⟨2, by omega, by go_num, S5⟩
            case measure => simp [intOf]
        · go_wp2_with fail
          go_ret
          exact ⟨_, rfl, S⟩
end Go.Proofs.YtmlpkejeglpciaaGreatDoor
