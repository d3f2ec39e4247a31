/- marquetrykeep.alike, ObjBack: the walks (laid by gen_w17.py). -/
import Derived.Test.YtjgfclhempjinaaDoorObjW15
import Derived.Test.YtjgfclhempjinaaDoorObjW16
namespace Go.Proofs.YtjgfclhempjinaaDoor
open Go Go.RowKit Go.Mq Go.Mq.Obj
set_option maxRecDepth 100000

/-- nil == nil, of two interface values, within a drawn region. -/
theorem wpX_nn {P : Program} {ops : Array Oper} {S : World → Prop} {R : Act → World → Prop} {E : Oper → Bool} {o : Oper} {rest : List Oper} {a : Act} {w : World} (t t2 : TypeId) (x : Operand) (hop : o.op = .binOp .eql t x (.const .nilIface) t2) (hx : a.eval x = .nilIface)
    (hw : Region.wanted o (yielded ops a.tmps) = true) (h : ∀ K : Act → World → Prop, (∀ a' w', wpX P ops E S R rest a' w' → K a' w') → o.wp P a w K NoExit) : wpX P ops E S R (o :: rest) a w := by
  have h' := h _ (fun _ _ h => h)
  have hst : StillV P (execOp a.eval o) := by
    obtain ⟨dst, op, ty, p, af, g⟩ := o
    simp only at hop
    subst hop
    simp only [execOp]
    have hy : a.eval (.const .nilIface) = .nilIface := rfl
    refine StillV.of (s := do eqGuard .eql t x (.const .nilIface) (a.eval x) (a.eval (.const .nilIface)); binOp .eql t (a.eval x) (a.eval (.const .nilIface))) ?_
    rw [hx, hy]
    refine Still.bind (by unfold eqGuard; simp; exact Still.pure _) fun _ => ?_
    exact (run_eql_still (op := .eql) _ _ _ rfl (.inl rfl)).bind fun _ => Still.pure _
  unfold Oper.wp at h'
  cases hr : (execOp a.eval o).run P w with
  | halt x w1 =>
    rw [hr] at h'
    cases x <;> simp only [Oper.upon] at h'
    exact h'.elim
  | ok n w1 =>
    obtain ⟨v, rfl, rfl, hall⟩ := hst w n w1 hr
    rw [hr] at h'
    exact .inl ⟨v, .inl ⟨hw, fun w' _ => hall w'⟩, h'⟩

set_option maxHeartbeats 4000000 in
theorem alike_any (B1 b1 off1 B2 b2 off2 : Nat) (o : ObjD) (M1 M2 : ObjM) (w : World) (h1 : ObjAt w B1 b1 off1 o M1) (h2 : ObjAt w B2 b2 off2 o M2) (hs : o.small) :
    Calls Tryd.prog 11 #[.pointer (some ⟨b1, off1, none⟩), .pointer (some ⟨b2, off2, none⟩)] w (Ans w (.bool true)) := by
  obtain ⟨sa, ua, va, pa, na, ca, sc, uc, vc, pc, nc, cc, us⟩ := M1
  obtain ⟨sa', ua', va', pa', na', ca', sc', uc', vc', pc', nc', cc', us'⟩ := M2
  have f1 := (fun w' (hc : Chg [] w w') => eq_sym sa sa' o.syms.length sc sc' o.syms w' rfl hs.syms.1 (h1.s.kept hc (by simp)) (h2.s.kept hc (by simp)))
  have hus1 : us.map (·.u) = o.uses := h1.us
  have hus2 : us'.map (·.u) = o.uses := h2.us
  have hmu : ∀ m ∈ us, m.u ∈ o.uses := fun m hm => by rw [← hus1]; exact List.mem_map_of_mem hm
  have f2 := (fun w' (hc : Chg [] w w') => eqf_use ua ua' o.uses.length uc uc' us us' w' (by rw [← hus1, List.length_map]) (by rw [← hus2, List.length_map]) hs.uses.1 (by rw [hus1, hus2]) (h1.u.kept hc (by simp)) (h2.u.kept hc (by simp))
    (fun m hm => ⟨(hs.uses.2 _ (hmu m hm)).2.2.1, (h1.un m hm).1.kept hc (by simp)⟩) (fun m hm => (h2.un m hm).1.kept hc (by simp)))
  have f3 := (fun w' (hc : Chg [] w w') => eq_glob va va' o.vars.length vc vc' o.vars w' rfl hs.vars.1 (h1.v.kept hc (by simp)) (h2.v.kept hc (by simp)))
  have f4 := (fun w' (hc : Chg [] w w') => eq_str na na' o.names.length nc nc' o.names w' rfl hs.names.1 (by have := h1.n.kept hc (by simp); rw [map_flat] at this; exact this) (by have := h2.n.kept hc (by simp); rw [map_flat] at this; exact this))
  have F1 := Lib.hid f1; have F2 := Lib.hid f2; have F3 := Lib.hid f3; have F4 := Lib.hid f4
  have g0 := h1.c0
  have g1 := h1.c1
  have g2 := h1.c2
  have g3 := h1.c3
  have g4 := h1.c4
  have g5 := h1.c5
  have g6 := h1.c6
  dsimp only at g1 g2 g3 g4 g5 g6
  have k0 := h2.c0
  have k1 := h2.c1
  have k2 := h2.c2
  have k3 := h2.c3
  have k4 := h2.c4
  have k5 := h2.c5
  have k6 := h2.c6
  dsimp only at k1 k2 k3 k4 k5 k6
  have HZ1 := Lib.hid (Zone.of (X := []) (w0 := w.drew) (off := off1) (b := b1) g0 (by simp))
  have HZ2 := Lib.hid (Zone.of (X := []) (w0 := w.drew) (off := off2) (b := b2) k0 (by simp))
  have HLT1 := Lib.hid (show b1 < w.drew.heap.size from lt_of_cell g0)
  have HLT2 := Lib.hid (show b2 < w.drew.heap.size from lt_of_cell k0)
  obtain ⟨sn, hsn⟩ : ∃ x, bs o.name = x := ⟨_, rfl⟩
  have e0 : str o.name = .string sn := by rw [← hsn]
  rw [e0] at g0 k0
  clear f1 f2 f3 f4 h1 h2 hs hus1 hus2 hmu hsn e0
  go_enter Tryd.func11, Tryd.ntmps11
  go_wp2_with fail
  refine wp_region_C [] rfl (by kernel_rfl) ?_
  have hS : Chg [] w.drew w.drew := Chg.refl _ _
  repeat
    (with_reducible show wpX _ _ _ _ _ _ _ _
     first
       | refine wpX_nil ?_
       | refine wpX_skip rfl ?_
       | refine wpX_mv rfl rfl (by kernel_rfl) (fun _ _ => ?_)
       | refine wpX_ldC rfl rfl rfl (by first | exact HZ1.out | exact HZ2.out) (by assumption) (fun _ _ => ?_)
       | refine wpX_ef' rfl rfl rfl (fun _ _ => ?_)
     go_wp2_with fail)
  refine (F1.out _ ((Chg.refl [] w).drew)).mono ?_; rintro _ w1 ⟨rfl, hw⟩
  have hS := hw
  have HCS := Lib.hid hS

  have hk1 := Chg.cells hS HLT1.out (by simp)
  have hk2 := Chg.cells hS HLT2.out (by simp)
  clear hw
  go_wp2_with fail
  refine And.intro HCS.out ?_
  repeat
    (with_reducible show wpX _ _ _ _ _ _ _ _
     first
       | refine wpX_nil ?_
       | refine wpX_skip rfl ?_
       | refine wpX_mv rfl rfl (by kernel_rfl) (fun _ _ => ?_)
       | refine wpX_ldC rfl rfl rfl (by first | exact HZ1.out | exact HZ2.out) (by assumption) (fun _ _ => ?_)
       | refine wpX_ef' rfl rfl rfl (fun _ _ => ?_)
     go_wp2_with fail)
  refine (F2.out _ (((Chg.refl [] w).drew).then HCS.out)).mono ?_; rintro _ w2 ⟨rfl, hw⟩
  have hS := HCS.out.then hw
  have HCS := Lib.hid hS
  clear hk1 hk2
  have hk1 := Chg.cells hS HLT1.out (by simp)
  have hk2 := Chg.cells hS HLT2.out (by simp)
  clear hw
  go_wp2_with fail
  refine And.intro HCS.out ?_
  repeat
    (with_reducible show wpX _ _ _ _ _ _ _ _
     first
       | refine wpX_nil ?_
       | refine wpX_skip rfl ?_
       | refine wpX_mv rfl rfl (by kernel_rfl) (fun _ _ => ?_)
       | refine wpX_ldC rfl rfl rfl (by first | exact HZ1.out | exact HZ2.out) (by assumption) (fun _ _ => ?_)
       | refine wpX_ef' rfl rfl rfl (fun _ _ => ?_)
     go_wp2_with fail)
  refine (F3.out _ (((Chg.refl [] w).drew).then HCS.out)).mono ?_; rintro _ w3 ⟨rfl, hw⟩
  have hS := HCS.out.then hw
  have HCS := Lib.hid hS
  clear hk1 hk2
  have hk1 := Chg.cells hS HLT1.out (by simp)
  have hk2 := Chg.cells hS HLT2.out (by simp)
  clear hw
  go_wp2_with fail
  refine And.intro HCS.out ?_
  repeat
    (with_reducible show wpX _ _ _ _ _ _ _ _
     first
       | refine wpX_nil ?_
       | refine wpX_skip rfl ?_
       | refine wpX_mv rfl rfl (by kernel_rfl) (fun _ _ => ?_)
       | refine wpX_ldC rfl rfl rfl (by first | exact HZ1.out | exact HZ2.out) (by assumption) (fun _ _ => ?_)
       | refine wpX_ef' rfl rfl rfl (fun _ _ => ?_)
     go_wp2_with fail)
  refine (F4.out _ (((Chg.refl [] w).drew).then HCS.out)).mono ?_; rintro _ w4 ⟨rfl, hw⟩
  have hS := HCS.out.then hw
  have HCS := Lib.hid hS
  clear hk1 hk2
  have hk1 := Chg.cells hS HLT1.out (by simp)
  have hk2 := Chg.cells hS HLT2.out (by simp)
  clear hw
  go_wp2_with fail
  refine And.intro HCS.out ?_
  repeat
    (with_reducible show wpX _ _ _ _ _ _ _ _
     first
       | refine wpX_nil ?_
       | refine wpX_skip rfl ?_
       | refine wpX_mv rfl rfl (by kernel_rfl) (fun _ _ => ?_)
       | refine wpX_ldC rfl rfl rfl (by first | exact HZ1.out | exact HZ2.out) (by assumption) (fun _ _ => ?_)
       | refine wpX_ef' rfl rfl rfl (fun _ _ => ?_)
     go_wp2_with fail)
  go_ret
  exact ⟨rfl, ((Chg.refl [] w).drew).then HCS.out⟩

set_option maxHeartbeats 4000000 in
theorem back_nil (s : ByteArray) (w : World) (hsz : s.size ≤ 9223372036854775807) : Calls Tryd.prog 4 #[.pointer none, .string s] w (fun e w' => e = .returned (.bool true) ∧ Chg [] w w') := by
  have hSM : Calls Tryd.prog 5 #[.pointer none] w (fun e w' => ∃ r, e = .returned (.bool r) ∧ (r = true → True) ∧ Chg [] w w') := (small_nil w).mono (by rintro e w' ⟨rfl, hc⟩; exact ⟨true, rfl, fun _ => trivial, hc⟩)
  have HSM := Lib.hid hSM; clear hSM
  go_enter Tryd.func4, Tryd.ntmps4
  go_wp2_with fail
  refine HSM.out.mono ?_; rintro _ w1 ⟨r, rfl, hq, hc⟩
  have HC := Lib.hid hc; have HQ := Lib.hid hq; clear hc hq
  cases r
  · go_wp2_with fail
    go_ret
    exact ⟨rfl, HC.out⟩
  cases hl : decide ((1500 : Int) < (s.size : Int))
  case true =>
    go_wp2_with fail
    go_ret
    exact ⟨rfl, HC.out⟩
  case false =>
  have hl2 : s.size ≤ 1500 := by simp at hl; omega
  go_wp2_with fail
  refine (written_any _).mono ?_; rintro _ w2 ⟨rfl, hc⟩
  have HC2 := Lib.hid (HC.out.then hc); clear hc
  have hP := parse_str s w2 (by omega)
  have HP := Lib.hid hP; clear hP
  go_wp2_with fail
  refine HP.out.mono ?_; rintro _ w3 ⟨hc, ⟨hp, bp, M, rfl, hat⟩ | ⟨hp, rfl⟩⟩
  · have HC3 := Lib.hid (HC2.out.then hc); clear hc
    have hr := (parsed_iff.1 hp).2
    have hsm := pObj_small s.data.toList (by rw [← Lib.size_eq]; omega)
    have hW := write_any _ _ _ _ _ w3 hat (Nat.le_refl _) hsm
    rw [hr, if_pos rfl, if_pos rfl, parsed_enc hp, bs_toList] at hW
    have hR := (fun w' (hc : Chg [] w3 w') => right_any _ _ _ _ _ w' (hat.kept hc (by simp)) hsm)
    rw [hr] at hR
    have HW := Lib.hid hW; have HR := Lib.hid hR
    clear hW hR hat hsm hr hp
    go_wp2_with fail
    refine HW.out.mono ?_; rintro _ w4 ⟨rfl, hc⟩
    have HC4 := Lib.hid hc; clear hc
    go_wp2_with fail
    refine (HR.out _ HC4.out).mono ?_; rintro _ w5 ⟨rfl, hc⟩
    have HC5 := Lib.hid (HC3.out.then (HC4.out.then hc)); clear hc
    go_wp2_with fail
    refine (write_nil _).mono ?_; rintro _ w6 ⟨rfl, hc⟩
    have HC6 := Lib.hid (HC5.out.then hc); clear hc
    go_wp2_with fail
    refine (right_nil _).mono ?_; rintro _ w7 ⟨rfl, hc⟩
    have HC7 := Lib.hid (HC6.out.then hc); clear hc
    go_wp2_with fail
    go_ret
    exact ⟨rfl, HC7.out⟩
  · have HC5 := Lib.hid (HC2.out.then hc); clear hc
    go_wp2_with fail
    refine (write_nil _).mono ?_; rintro _ w6 ⟨rfl, hc⟩
    have HC6 := Lib.hid (HC5.out.then hc); clear hc
    go_wp2_with fail
    refine (right_nil _).mono ?_; rintro _ w7 ⟨rfl, hc⟩
    have HC7 := Lib.hid (HC6.out.then hc); clear hc
    go_wp2_with fail
    go_ret
    exact ⟨rfl, HC7.out⟩

set_option maxHeartbeats 8000000 in
theorem back_obj (B b2 off2 : Nat) (o : ObjD) (M : ObjM) (s : ByteArray) (w : World) (hat : ObjAt w B b2 off2 o M) (hs : o.held) (hB : B ≤ w.heap.size) (hsz : s.size ≤ 9223372036854775807) :
    Calls Tryd.prog 4 #[.pointer (some ⟨b2, off2, none⟩), .string s] w (fun e w' => e = .returned (.bool true) ∧ Chg [] w w') := by
  have hat := objAt_higher hat hB
  have hSM := small_any _ _ _ _ _ w hat hs (Nat.le_refl _)
  obtain ⟨sa', ua', va', pa', na', ca', sc', uc', vc', pc', nc', cc', us'⟩ := M
  have HSM := Lib.hid hSM; have HAT := Lib.hid hat; clear hSM hat hs hB
  go_enter Tryd.func4, Tryd.ntmps4
  go_wp2_with fail
  refine HSM.out.mono ?_; rintro _ w1 ⟨r, rfl, hq, hc⟩
  have HC := Lib.hid hc; have HQ := Lib.hid hq; clear hc hq
  cases r
  · go_wp2_with fail
    go_ret
    exact ⟨rfl, HC.out⟩
  cases hl : decide ((1500 : Int) < (s.size : Int))
  case true =>
    go_wp2_with fail
    go_ret
    exact ⟨rfl, HC.out⟩
  case false =>
  have hl2 : s.size ≤ 1500 := by simp at hl; omega
  go_wp2_with fail
  refine (written_any _).mono ?_; rintro _ w2 ⟨rfl, hc⟩
  have HC2 := Lib.hid (HC.out.then hc); clear hc
  have hP := parse_str s w2 (by omega)
  have HP := Lib.hid hP; clear hP
  go_wp2_with fail
  refine HP.out.mono ?_; rintro _ w3 ⟨hc, ⟨hp, bp, M, rfl, hat⟩ | ⟨hp, rfl⟩⟩
  · have HC3 := Lib.hid (HC2.out.then hc); clear hc
    have hr := (parsed_iff.1 hp).2
    have hsm := pObj_small s.data.toList (by rw [← Lib.size_eq]; omega)
    have hW := write_any _ _ _ _ _ w3 hat (Nat.le_refl _) hsm
    rw [hr, if_pos rfl, if_pos rfl, parsed_enc hp, bs_toList] at hW
    have hR := (fun w' (hc : Chg [] w3 w') => right_any _ _ _ _ _ w' (hat.kept hc (by simp)) hsm)
    rw [hr] at hR
    have HW := Lib.hid hW; have HR := Lib.hid hR
    clear hW hR hat hsm hr hp
    go_wp2_with fail
    refine HW.out.mono ?_; rintro _ w4 ⟨rfl, hc⟩
    have HC4 := Lib.hid hc; clear hc
    go_wp2_with fail
    refine (HR.out _ HC4.out).mono ?_; rintro _ w5 ⟨rfl, hc⟩
    have HC5 := Lib.hid (HC3.out.then (HC4.out.then hc)); clear hc
    go_wp2_with fail
    have hsm := HQ.out (by first | rfl | trivial)
    have hatw := HAT.out.kept HC5.out (by simp)
    have hW := write_any _ _ _ _ _ w5 hatw HC5.out.size hsm
    have hR := (fun w' (hc : Chg [] w w') => right_any _ _ _ _ _ w' (HAT.out.kept hc (by simp)) hsm)
    cases hr : right o
    case false =>
      rw [hr] at hW hR
      have HW := Lib.hid hW; have HR := Lib.hid hR; clear hW hR hatw hsm hr
      refine HW.out.mono ?_; rintro _ w6 ⟨rfl, hc⟩
      have HC6 := Lib.hid (HC5.out.then hc); clear hc
      go_wp2_with fail
      refine (HR.out _ HC6.out).mono ?_; rintro _ w7 ⟨rfl, hc⟩
      have HC7 := Lib.hid (HC6.out.then hc); clear hc
      go_wp2_with fail
      go_ret
      exact ⟨rfl, HC7.out⟩
    case true =>
    rw [hr, if_pos rfl, if_pos rfl] at hW
    have hle : (bs (encO o)).size ≤ 1099511627776 := by have := encO_le hr; rw [bs_size]; omega
    have hP := (fun w' => parse_str (bs (encO o)) w' hle)
    have hpd : parsed (encO o) = true := by have h := parsed_more hsm hr []; rw [List.append_nil] at h; exact h
    have hpo : pObj (encO o) = o := by have h := (obj_enc hsm hr []).1; rw [List.append_nil] at h; exact h
    obtain ⟨t, ht⟩ : ∃ t, bs (encO o) = t := ⟨_, rfl⟩
    rw [ht] at hW hP
    have e9 : t.data.toList = encO o := by rw [← ht]
    have HW := Lib.hid hW; have HP := Lib.hid hP; have HPD := Lib.hid hpd; have HPO := Lib.hid hpo; have HE9 := Lib.hid e9; have HSMALL := Lib.hid hsm
    clear hW hR hatw hsm hr hle hP hpd hpo ht e9
    refine HW.out.mono ?_; rintro _ w6 ⟨rfl, hc⟩
    have HC6 := Lib.hid (HC5.out.then hc); clear hc
    go_wp2_with fail
    refine (HP.out _).mono ?_; rintro _ w7 ⟨hc, ⟨_, b1, M1, rfl, hat⟩ | ⟨hn, _⟩⟩
    case inr => rw [HE9.out, HPD.out] at hn; cases hn
    rw [HE9.out, HPO.out] at hat
    have hc7 := HC6.out.then hc
    have HC7 := Lib.hid hc7
    have hat2 := HAT.out.kept hc7 (by simp)
    clear hc hc7
    obtain ⟨sa, ua, va, pa, na, ca, sc, uc, vc, pc, nc, cc, us⟩ := M1
    have hAL := (fun w' (hc : Chg [] w7 w') => alike_any _ _ _ _ _ _ _ _ _ w' (hat.kept hc (by simp)) (hat2.kept hc (by simp)) HSMALL.out)
    have hEP := (fun w' (hc : Chg [] w7 w') => eq_ent pa pa' o.procs.length pc pc' o.procs w' rfl HSMALL.out.procs (hat.p.kept hc (by simp)) (hat2.p.kept hc (by simp)))
    have hEC := (fun w' (hc : Chg [] w7 w') => eq_inst ca ca' o.code.length cc cc' o.code w' rfl HSMALL.out.code (hat.c.kept hc (by simp)) (hat2.c.kept hc (by simp)))
    have F1 := Lib.hid hAL; have F2 := Lib.hid hEP; have F3 := Lib.hid hEC
    have g0 : w7.cell? ⟨b1, 0, none⟩ = some (str o.name) := hat.c0
    have g1 : w7.cell? ⟨b1, 1, none⟩ = some (.slice sa o.syms.length sc) := hat.c1
    have g2 : w7.cell? ⟨b1, 2, none⟩ = some (.slice ua o.uses.length uc) := hat.c2
    have g3 : w7.cell? ⟨b1, 3, none⟩ = some (.slice va o.vars.length vc) := hat.c3
    have g4 : w7.cell? ⟨b1, 4, none⟩ = some (.slice pa o.procs.length pc) := hat.c4
    have g5 : w7.cell? ⟨b1, 5, none⟩ = some (.slice na o.names.length nc) := hat.c5
    have g6 : w7.cell? ⟨b1, 6, none⟩ = some (.slice ca o.code.length cc) := hat.c6
    have k0 := hat2.c0
    have k1 := hat2.c1
    have k2 := hat2.c2
    have k3 := hat2.c3
    have k4 := hat2.c4
    have k5 := hat2.c5
    have k6 := hat2.c6
    dsimp only at k1 k2 k3 k4 k5 k6
    have HZ1 := Lib.hid (Zone.of (X := []) (w0 := w7.drew) (off := 0) (b := b1) g0 (by simp))
    have HZ2 := Lib.hid (Zone.of (X := []) (w0 := w7.drew) (off := off2) (b := b2) k0 (by simp))
    have HLT1 := Lib.hid (show b1 < w7.drew.heap.size from lt_of_cell g0)
    have HLT2 := Lib.hid (show b2 < w7.drew.heap.size from lt_of_cell k0)
    clear hAL hEP hEC hat hat2
    go_wp2_with fail
    refine wp_region_C [] rfl (by kernel_rfl) ?_
    have hS : Chg [] w7.drew w7.drew := Chg.refl _ _
    repeat
      (with_reducible show wpX _ _ _ _ _ _ _ _
       first
         | refine wpX_nil ?_
         | refine wpX_skip rfl ?_
         | refine wpX_mv rfl rfl (by kernel_rfl) (fun _ _ => ?_)
         | refine wpX_ldC rfl rfl rfl (by first | exact HZ1.out | exact HZ2.out) (by assumption) (fun _ _ => ?_)
         | refine wpX_ef' rfl rfl rfl (fun _ _ => ?_)
       go_wp2_with fail)
    refine wpX_nn _ _ _ rfl rfl rfl (fun _ _ => ?_)
    go_wp2_with fail
    repeat
      (with_reducible show wpX _ _ _ _ _ _ _ _
       first
         | refine wpX_nil ?_
         | refine wpX_skip rfl ?_
         | refine wpX_mv rfl rfl (by kernel_rfl) (fun _ _ => ?_)
         | refine wpX_ldC rfl rfl rfl (by first | exact HZ1.out | exact HZ2.out) (by assumption) (fun _ _ => ?_)
         | refine wpX_ef' rfl rfl rfl (fun _ _ => ?_)
       go_wp2_with fail)
    refine (F1.out _ ((Chg.refl [] w7).drew)).mono ?_; rintro _ w8 ⟨rfl, hw⟩
    have hS := hw
    have HCS := Lib.hid hS

    have hk1 := Chg.cells hS HLT1.out (by simp)
    have hk2 := Chg.cells hS HLT2.out (by simp)
    clear hw
    go_wp2_with fail
    refine And.intro HCS.out ?_
    repeat
      (with_reducible show wpX _ _ _ _ _ _ _ _
       first
         | refine wpX_nil ?_
         | refine wpX_skip rfl ?_
         | refine wpX_mv rfl rfl (by kernel_rfl) (fun _ _ => ?_)
         | refine wpX_ldC rfl rfl rfl (by first | exact HZ1.out | exact HZ2.out) (by assumption) (fun _ _ => ?_)
         | refine wpX_ef' rfl rfl rfl (fun _ _ => ?_)
       go_wp2_with fail)
    refine (F2.out _ (((Chg.refl [] w7).drew).then HCS.out)).mono ?_; rintro _ w9 ⟨rfl, hw⟩
    have hS := HCS.out.then hw
    have HCS := Lib.hid hS
    clear hk1 hk2
    have hk1 := Chg.cells hS HLT1.out (by simp)
    have hk2 := Chg.cells hS HLT2.out (by simp)
    clear hw
    go_wp2_with fail
    refine And.intro HCS.out ?_
    repeat
      (with_reducible show wpX _ _ _ _ _ _ _ _
       first
         | refine wpX_nil ?_
         | refine wpX_skip rfl ?_
         | refine wpX_mv rfl rfl (by kernel_rfl) (fun _ _ => ?_)
         | refine wpX_ldC rfl rfl rfl (by first | exact HZ1.out | exact HZ2.out) (by assumption) (fun _ _ => ?_)
         | refine wpX_ef' rfl rfl rfl (fun _ _ => ?_)
       go_wp2_with fail)
    refine (F3.out _ (((Chg.refl [] w7).drew).then HCS.out)).mono ?_; rintro _ w10 ⟨rfl, hw⟩
    have hS := HCS.out.then hw
    have HCS := Lib.hid hS
    clear hk1 hk2
    have hk1 := Chg.cells hS HLT1.out (by simp)
    have hk2 := Chg.cells hS HLT2.out (by simp)
    clear hw
    go_wp2_with fail
    refine And.intro HCS.out ?_
    repeat
      (with_reducible show wpX _ _ _ _ _ _ _ _
       first
         | refine wpX_nil ?_
         | refine wpX_skip rfl ?_
         | refine wpX_mv rfl rfl (by kernel_rfl) (fun _ _ => ?_)
         | refine wpX_ldC rfl rfl rfl (by first | exact HZ1.out | exact HZ2.out) (by assumption) (fun _ _ => ?_)
         | refine wpX_ef' rfl rfl rfl (fun _ _ => ?_)
       go_wp2_with fail)
    go_ret
    exact ⟨rfl, (HC7.out.drew).then HCS.out⟩
  · have HC5 := Lib.hid (HC2.out.then hc); clear hc
    go_wp2_with fail
    have hsm := HQ.out (by first | rfl | trivial)
    have hatw := HAT.out.kept HC5.out (by simp)
    have hW := write_any _ _ _ _ _ w3 hatw HC5.out.size hsm
    have hR := (fun w' (hc : Chg [] w w') => right_any _ _ _ _ _ w' (HAT.out.kept hc (by simp)) hsm)
    cases hr : right o
    case false =>
      rw [hr] at hW hR
      have HW := Lib.hid hW; have HR := Lib.hid hR; clear hW hR hatw hsm hr
      refine HW.out.mono ?_; rintro _ w6 ⟨rfl, hc⟩
      have HC6 := Lib.hid (HC5.out.then hc); clear hc
      go_wp2_with fail
      refine (HR.out _ HC6.out).mono ?_; rintro _ w7 ⟨rfl, hc⟩
      have HC7 := Lib.hid (HC6.out.then hc); clear hc
      go_wp2_with fail
      go_ret
      exact ⟨rfl, HC7.out⟩
    case true =>
    rw [hr, if_pos rfl, if_pos rfl] at hW
    have hle : (bs (encO o)).size ≤ 1099511627776 := by have := encO_le hr; rw [bs_size]; omega
    have hP := (fun w' => parse_str (bs (encO o)) w' hle)
    have hpd : parsed (encO o) = true := by have h := parsed_more hsm hr []; rw [List.append_nil] at h; exact h
    have hpo : pObj (encO o) = o := by have h := (obj_enc hsm hr []).1; rw [List.append_nil] at h; exact h
    obtain ⟨t, ht⟩ : ∃ t, bs (encO o) = t := ⟨_, rfl⟩
    rw [ht] at hW hP
    have e9 : t.data.toList = encO o := by rw [← ht]
    have HW := Lib.hid hW; have HP := Lib.hid hP; have HPD := Lib.hid hpd; have HPO := Lib.hid hpo; have HE9 := Lib.hid e9; have HSMALL := Lib.hid hsm
    clear hW hR hatw hsm hr hle hP hpd hpo ht e9
    refine HW.out.mono ?_; rintro _ w6 ⟨rfl, hc⟩
    have HC6 := Lib.hid (HC5.out.then hc); clear hc
    go_wp2_with fail
    refine (HP.out _).mono ?_; rintro _ w7 ⟨hc, ⟨_, b1, M1, rfl, hat⟩ | ⟨hn, _⟩⟩
    case inr => rw [HE9.out, HPD.out] at hn; cases hn
    rw [HE9.out, HPO.out] at hat
    have hc7 := HC6.out.then hc
    have HC7 := Lib.hid hc7
    have hat2 := HAT.out.kept hc7 (by simp)
    clear hc hc7
    obtain ⟨sa, ua, va, pa, na, ca, sc, uc, vc, pc, nc, cc, us⟩ := M1
    have hAL := (fun w' (hc : Chg [] w7 w') => alike_any _ _ _ _ _ _ _ _ _ w' (hat.kept hc (by simp)) (hat2.kept hc (by simp)) HSMALL.out)
    have hEP := (fun w' (hc : Chg [] w7 w') => eq_ent pa pa' o.procs.length pc pc' o.procs w' rfl HSMALL.out.procs (hat.p.kept hc (by simp)) (hat2.p.kept hc (by simp)))
    have hEC := (fun w' (hc : Chg [] w7 w') => eq_inst ca ca' o.code.length cc cc' o.code w' rfl HSMALL.out.code (hat.c.kept hc (by simp)) (hat2.c.kept hc (by simp)))
    have F1 := Lib.hid hAL; have F2 := Lib.hid hEP; have F3 := Lib.hid hEC
    have g0 : w7.cell? ⟨b1, 0, none⟩ = some (str o.name) := hat.c0
    have g1 : w7.cell? ⟨b1, 1, none⟩ = some (.slice sa o.syms.length sc) := hat.c1
    have g2 : w7.cell? ⟨b1, 2, none⟩ = some (.slice ua o.uses.length uc) := hat.c2
    have g3 : w7.cell? ⟨b1, 3, none⟩ = some (.slice va o.vars.length vc) := hat.c3
    have g4 : w7.cell? ⟨b1, 4, none⟩ = some (.slice pa o.procs.length pc) := hat.c4
    have g5 : w7.cell? ⟨b1, 5, none⟩ = some (.slice na o.names.length nc) := hat.c5
    have g6 : w7.cell? ⟨b1, 6, none⟩ = some (.slice ca o.code.length cc) := hat.c6
    have k0 := hat2.c0
    have k1 := hat2.c1
    have k2 := hat2.c2
    have k3 := hat2.c3
    have k4 := hat2.c4
    have k5 := hat2.c5
    have k6 := hat2.c6
    dsimp only at k1 k2 k3 k4 k5 k6
    have HZ1 := Lib.hid (Zone.of (X := []) (w0 := w7.drew) (off := 0) (b := b1) g0 (by simp))
    have HZ2 := Lib.hid (Zone.of (X := []) (w0 := w7.drew) (off := off2) (b := b2) k0 (by simp))
    have HLT1 := Lib.hid (show b1 < w7.drew.heap.size from lt_of_cell g0)
    have HLT2 := Lib.hid (show b2 < w7.drew.heap.size from lt_of_cell k0)
    clear hAL hEP hEC hat hat2
    go_wp2_with fail
    refine wp_region_C [] rfl (by kernel_rfl) ?_
    have hS : Chg [] w7.drew w7.drew := Chg.refl _ _
    repeat
      (with_reducible show wpX _ _ _ _ _ _ _ _
       first
         | refine wpX_nil ?_
         | refine wpX_skip rfl ?_
         | refine wpX_mv rfl rfl (by kernel_rfl) (fun _ _ => ?_)
         | refine wpX_ldC rfl rfl rfl (by first | exact HZ1.out | exact HZ2.out) (by assumption) (fun _ _ => ?_)
         | refine wpX_ef' rfl rfl rfl (fun _ _ => ?_)
       go_wp2_with fail)
    refine wpX_nn _ _ _ rfl rfl rfl (fun _ _ => ?_)
    go_wp2_with fail
    repeat
      (with_reducible show wpX _ _ _ _ _ _ _ _
       first
         | refine wpX_nil ?_
         | refine wpX_skip rfl ?_
         | refine wpX_mv rfl rfl (by kernel_rfl) (fun _ _ => ?_)
         | refine wpX_ldC rfl rfl rfl (by first | exact HZ1.out | exact HZ2.out) (by assumption) (fun _ _ => ?_)
         | refine wpX_ef' rfl rfl rfl (fun _ _ => ?_)
       go_wp2_with fail)
    refine (F1.out _ ((Chg.refl [] w7).drew)).mono ?_; rintro _ w8 ⟨rfl, hw⟩
    have hS := hw
    have HCS := Lib.hid hS

    have hk1 := Chg.cells hS HLT1.out (by simp)
    have hk2 := Chg.cells hS HLT2.out (by simp)
    clear hw
    go_wp2_with fail
    refine And.intro HCS.out ?_
    repeat
      (with_reducible show wpX _ _ _ _ _ _ _ _
       first
         | refine wpX_nil ?_
         | refine wpX_skip rfl ?_
         | refine wpX_mv rfl rfl (by kernel_rfl) (fun _ _ => ?_)
         | refine wpX_ldC rfl rfl rfl (by first | exact HZ1.out | exact HZ2.out) (by assumption) (fun _ _ => ?_)
         | refine wpX_ef' rfl rfl rfl (fun _ _ => ?_)
       go_wp2_with fail)
    refine (F2.out _ (((Chg.refl [] w7).drew).then HCS.out)).mono ?_; rintro _ w9 ⟨rfl, hw⟩
    have hS := HCS.out.then hw
    have HCS := Lib.hid hS
    clear hk1 hk2
    have hk1 := Chg.cells hS HLT1.out (by simp)
    have hk2 := Chg.cells hS HLT2.out (by simp)
    clear hw
    go_wp2_with fail
    refine And.intro HCS.out ?_
    repeat
      (with_reducible show wpX _ _ _ _ _ _ _ _
       first
         | refine wpX_nil ?_
         | refine wpX_skip rfl ?_
         | refine wpX_mv rfl rfl (by kernel_rfl) (fun _ _ => ?_)
         | refine wpX_ldC rfl rfl rfl (by first | exact HZ1.out | exact HZ2.out) (by assumption) (fun _ _ => ?_)
         | refine wpX_ef' rfl rfl rfl (fun _ _ => ?_)
       go_wp2_with fail)
    refine (F3.out _ (((Chg.refl [] w7).drew).then HCS.out)).mono ?_; rintro _ w10 ⟨rfl, hw⟩
    have hS := HCS.out.then hw
    have HCS := Lib.hid hS
    clear hk1 hk2
    have hk1 := Chg.cells hS HLT1.out (by simp)
    have hk2 := Chg.cells hS HLT2.out (by simp)
    clear hw
    go_wp2_with fail
    refine And.intro HCS.out ?_
    repeat
      (with_reducible show wpX _ _ _ _ _ _ _ _
       first
         | refine wpX_nil ?_
         | refine wpX_skip rfl ?_
         | refine wpX_mv rfl rfl (by kernel_rfl) (fun _ _ => ?_)
         | refine wpX_ldC rfl rfl rfl (by first | exact HZ1.out | exact HZ2.out) (by assumption) (fun _ _ => ?_)
         | refine wpX_ef' rfl rfl rfl (fun _ _ => ?_)
       go_wp2_with fail)
    go_ret
    exact ⟨rfl, (HC7.out.drew).then HCS.out⟩
end Go.Proofs.YtjgfclhempjinaaDoor
