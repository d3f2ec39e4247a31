/- marquetrylaw.ObjWrites returns true, out of its callees' contracts. -/
import Derived.Test.YtjgfclhempjinaaGreatDoorObjW11
import Derived.Test.YtjgfclhempjinaaGreatDoorRefWrite
import Derived.Test.YtjgfclhempjinaaGreatDoorRefLaw
import Derived.Test.YtjgfclhempjinaaGreatDoorRefSame
import Derived.Test.YtjgfclhempjinaaGreatDoorLawSmall
import Derived.Test.YtjgfclhempjinaaGreatDoorApiTell
namespace Go.Proofs.YtjgfclhempjinaaGreatDoor
open Go Go.RowKit Go.Mq Go.Mq.Obj
set_option maxRecDepth 100000
theorem bare_nil (w : World) (hg : ErrLaid w) : Calls Tryz.prog 7 #[.nilIface, .int .i64 0] w (Ans w (.bool true)) := bare_any 0 0 w hg
theorem bare_one (w : World) (hg : ErrLaid w) : Calls Tryz.prog 7 #[.iface 24 (.int .i64 1), .int .i64 1] w (Ans w (.bool true)) := bare_any 1 1 w hg
theorem bare_three (w : World) (hg : ErrLaid w) : Calls Tryz.prog 7 #[.iface 24 (.int .i64 3), .int .i64 3] w (Ans w (.bool true)) := bare_any 3 3 w hg

/-! No object: what the two writers do of it. -/
theorem oright_nil (w : World) : Calls Tryz.prog 8 #[.pointer none] w (Ans w (.bool false)) := by
  go_enter Tryz.func8, Tryz.ntmps8
  go_wp2_with fail
  go_ret
  exact ⟨rfl, (Chg.refl [] w).alloc _⟩
theorem owrite_nil (w : World) : Calls Tryz.prog 6 #[.pointer none] w (fun e w' => e = .returned (.tuple #[str [], .iface 24 (.int .i64 1)]) ∧ Chg [] w w') := by
  have HR := Lib.hid (oright_nil w)
  go_enter Tryz.func6, Tryz.ntmps6
  go_wp2_with fail
  refine HR.out.mono ?_; rintro _ w1 ⟨rfl, hc⟩
  have HC := Lib.hid hc; clear hc
  go_wp2_with fail
  go_ret2
  exact ⟨rfl, HC.out⟩
theorem rwrite_nil (w : World) : Calls Tryz.prog 5 #[.pointer none] w (fun e w' => e = .returned (.tuple #[str [], .int .i64 1]) ∧ Chg [] w w') := by
  have HR := Lib.hid (rright_nil w)
  go_enter Tryz.func5, Tryz.ntmps5
  go_wp2_with fail
  refine HR.out.mono ?_; rintro _ w1 ⟨rfl, hc⟩
  have HC := Lib.hid hc; clear hc
  go_wp2_with fail
  go_ret2
  exact ⟨rfl, HC.out⟩

set_option maxHeartbeats 8000000 in
theorem ow_any (v0 : Value) (l : List UInt8) (w : World) (P : Prop) (r : Bool) (t : List UInt8) (hE : ErrLaid w) (hl : l.length ≤ 9223372036854775807)
    (hsm : Calls Tryz.prog 4 #[v0] w (fun e w' => ∃ q : Bool, e = .returned (.bool q) ∧ (q = true → P) ∧ Chg [] w w'))
    (hW1 : P → ∀ w', Chg [] w w' → Calls Tryz.prog 5 #[v0] w' (fun e w2 => e = .returned (.tuple #[str t, .int .i64 (if r then 0 else 1)]) ∧ Chg [] w' w2))
    (hW2 : P → ∀ w', Chg [] w w' → Calls Tryz.prog 6 #[v0] w' (fun e w2 => e = .returned (.tuple #[str t, if r then .nilIface else .iface 24 (.int .i64 1)]) ∧ Chg [] w' w2))
    (hR1 : P → ∀ w', Chg [] w w' → Calls Tryz.prog 8 #[v0] w' (Ans w' (.bool r)))
    (hR2 : P → ∀ w', Chg [] w w' → Calls Tryz.prog 9 #[v0] w' (Ans w' (.bool r))) :
    Calls Tryz.prog 3 #[v0, str l] w (Ans w (.bool true)) := by
  have hz : (bs l).size = l.length := rfl
  cases r
  · simp only [Bool.false_eq_true, if_false] at hW1 hW2
    have HSM := Lib.hid hsm; have HW1 := Lib.hid hW1; have HW2 := Lib.hid hW2; have HR1 := Lib.hid hR1; have HR2 := Lib.hid hR2; have HE := Lib.hid hE
    clear hsm hW1 hW2 hR1 hR2 hE
    go_enter Tryz.func3, Tryz.ntmps3
    go_wp2_with fail
    refine HSM.out.mono ?_; rintro _ w1 ⟨q, rfl, hq, hc⟩
    have HC1 := Lib.hid hc; clear hc
    cases q
    · go_wp2_with fail
      go_ret
      exact ⟨rfl, HC1.out⟩
    have HP := Lib.hid (hq rfl); clear hq
    cases hbig : decide ((1500 : Int) < (l.length : Int))
    · have hle : l.length ≤ 1500 := by have := of_decide_eq_false hbig; omega
      go_wp2_with fail
      refine (HW1.out HP.out w1 HC1.out).mono ?_; rintro _ w2 ⟨rfl, hc⟩
      have HC2 := Lib.hid (HC1.out.then hc); clear hc
      go_wp2_with fail
      refine (HW2.out HP.out w2 HC2.out).mono ?_; rintro _ w3 ⟨rfl, hc⟩
      have HC3 := Lib.hid (HC2.out.then hc); clear hc
      have HR3 := Lib.hid (fun w' (hc : Chg [] w w') => HR1.out HP.out w' hc)
      have HR4 := Lib.hid (fun w' (hc : Chg [] w w') => HR2.out HP.out w' hc)
      have HN1 := Lib.hid (fun w' => name_any l w' (by omega))
      have HN2 := Lib.hid (fun w' => rname_ans l w' (by omega))
      have HB1 := Lib.hid (fun w' (hc : Chg [] w w') => bare_nil w' (HE.out.kept hc (by simp)))
      have HB2 := Lib.hid (fun w' (hc : Chg [] w w') => bare_one w' (HE.out.kept hc (by simp)))
      have HB3 := Lib.hid (fun w' (hc : Chg [] w w') => bare_three w' (HE.out.kept hc (by simp)))
      have HPS := Lib.hid (pObj_small l (by omega))
      have HOK := Lib.hid (okRead_parsed (l := l) (by omega) (fun _ => HPS.out))
      go_wp2_with fail
      refine (HB2.out w3 HC3.out).mono ?_; rintro _ w4 ⟨rfl, hc⟩
      have HC4 := Lib.hid (HC3.out.then hc); clear hc
      go_wp2_with fail
      refine (HR3.out w4 HC4.out).mono ?_; rintro _ w5 ⟨rfl, hc⟩
      have HC5 := Lib.hid (HC4.out.then hc); clear hc
      go_wp2_with fail
      refine (HR4.out w5 HC5.out).mono ?_; rintro _ w6 ⟨rfl, hc⟩
      have HC6 := Lib.hid (HC5.out.then hc); clear hc
      go_wp2_with fail
      refine (HN1.out w6).mono ?_; rintro _ w7 ⟨rfl, hc⟩
      have HC7 := Lib.hid (HC6.out.then hc); clear hc
      go_wp2_with fail
      refine (HN2.out w7).mono ?_; rintro _ w8 ⟨rfl, hc⟩
      have HC8 := Lib.hid (HC7.out.then hc); clear hc
      have HRD := Lib.hid (rread_any rwrite_any l w8 (by omega))
      have HPA := Lib.hid (fun w' => parse_any l w' (by omega))
      go_wp2_with fail
      refine HRD.out.mono ?_; rintro _ w9 ⟨hc, hres⟩
      have HC9 := Lib.hid (HC8.out.then hc); clear hc
      rcases hres with ⟨hok, bo, M, rfl, hat⟩ | ⟨hok, rfl⟩
      · have hpa : parsed l = true := by rw [← HOK.out.1]; exact hok
        rw [HOK.out.2 hpa] at hat
        have HAT := Lib.hid hat; have HPT := Lib.hid hpa
        clear hok hpa hat
        go_wp2_with fail
        refine (HPA.out w9).mono ?_; rintro _ w10 ⟨hc, hres⟩
        have HCX := Lib.hid hc
        have HC10 := Lib.hid (HC9.out.then hc); clear hc
        rcases hres with ⟨_, b2, M2, rfl, hat2⟩ | ⟨hno, _⟩
        · have HA1 := Lib.hid (HAT.out.kept HCX.out (by simp)); have HA2 := Lib.hid hat2
          clear hat2
          go_wp2_with fail
          refine (HB1.out w10 HC10.out).mono ?_; rintro _ w11 ⟨rfl, hc⟩
          have HC11 := Lib.hid (HC10.out.then hc)
          have HA1 := Lib.hid (HA1.out.kept hc (by simp)); have HA2 := Lib.hid (HA2.out.kept hc (by simp)); clear hc
          have HSO := Lib.hid (same_obj _ _ _ _ _ _ _ _ _ w11 HA2.out HA1.out HPS.out)
          go_wp2_with fail
          refine HSO.out.mono ?_; rintro _ w12 ⟨rfl, hc⟩
          have HC12 := Lib.hid (HC11.out.then hc)
          have ha1 := HA1.out.kept hc (by simp); have ha2 := HA2.out.kept hc (by simp); clear hc
          have HA1 := Lib.hid ha1; have HA2 := Lib.hid ha2
          have p6 := ha1.c6
          have q6 := ha2.c6
          have p4 := ha1.c4
          have q4 := ha2.c4
          have hzc : (pObj l).code.length ≤ 1099511627776 := HPS.out.code
          have hzp : (pObj l).procs.length ≤ 1099511627776 := HPS.out.procs
          obtain ⟨sa, ua, va, pa, na, ca, sc, uc, vc, pc, nc, cc, us⟩ := M
          obtain ⟨sa2, ua2, va2, pa2, na2, ca2, sc2, uc2, vc2, pc2, nc2, cc2, us2⟩ := M2
          dsimp only at p4 p6 q4 q6
          clear ha1 ha2
          obtain ⟨o, ho⟩ : ∃ o, o = pObj l := ⟨_, rfl⟩
          rw [← ho] at p4 p6 q4 q6 hzc hzp HA1 HA2
          clear ho
          go_wp2_with fail
          go_region
          all_goals (try go_wp2_with fail)
          clear p4 q4 p6 q6
          go_loopw [11] (fun i wr => ∃ k : Nat, k ≤ o.procs.length ∧ i = .int .i64 k ∧ Chg [] w12 wr) (fun i _ => o.procs.length - (intOf i).toNat)
          case atStart => exact ⟨0, Nat.zero_le _, rfl, (Chg.refl [] w12).drew⟩
          case round =>
          obtain ⟨k, hk, rfl, hc⟩ := hrel
          have p_4 : wr.cell? ⟨bo, 0 + 4, none⟩ = _ := hc.cellSome HA1.out.c4 (by simp)
          have q_4 : wr.cell? ⟨b2, 0 + 4, none⟩ = _ := hc.cellSome HA2.out.c4 (by simp)
          dsimp only at p_4 q_4
          by_cases hlt : k < o.procs.length
          · obtain ⟨x, hx⟩ : ∃ x, o.procs[k]? = some x := ⟨o.procs[k], by simp [hlt]⟩
            have hat1 : At w12 pa (o.procs.flatMap EntD.cells) := HA1.out.p
            have hat2 : At w12 pa2 (o.procs.flatMap EntD.cells) := HA2.out.p
            obtain ⟨d1, o1, rfl, hcell1⟩ := hat1 (by rw [flat_len _ 3 (fun _ => rfl)]; omega)
            obtain ⟨d2, o2, rfl, hcell2⟩ := hat2 (by rw [flat_len _ 3 (fun _ => rfl)]; omega)
            have r10 : wr.cell? ⟨d1, o1 + k * 3, none⟩ = some (.int .i64 x.place) := by
              have h1 := flat_get EntD.cells 3 (fun _ => rfl) o.procs k 0 x hx (by omega)
              have h2 := hc.cellSome (hcell1 _ _ h1) (by simp)
              exact h2
            have r11 : wr.cell? ⟨d1, o1 + k * 3 + 1, none⟩ = some (.int .i64 x.args) := by
              have h1 := flat_get EntD.cells 3 (fun _ => rfl) o.procs k 1 x hx (by omega)
              have h2 := hc.cellSome (hcell1 _ _ h1) (by simp)
              rw [← Nat.add_assoc] at h2; exact h2
            have r12 : wr.cell? ⟨d1, o1 + k * 3 + 2, none⟩ = some (.int .i64 x.locals) := by
              have h1 := flat_get EntD.cells 3 (fun _ => rfl) o.procs k 2 x hx (by omega)
              have h2 := hc.cellSome (hcell1 _ _ h1) (by simp)
              rw [← Nat.add_assoc] at h2; exact h2
            have r20 : wr.cell? ⟨d2, o2 + k * 3, none⟩ = some (.int .i64 x.place) := by
              have h1 := flat_get EntD.cells 3 (fun _ => rfl) o.procs k 0 x hx (by omega)
              have h2 := hc.cellSome (hcell2 _ _ h1) (by simp)
              exact h2
            have r21 : wr.cell? ⟨d2, o2 + k * 3 + 1, none⟩ = some (.int .i64 x.args) := by
              have h1 := flat_get EntD.cells 3 (fun _ => rfl) o.procs k 1 x hx (by omega)
              have h2 := hc.cellSome (hcell2 _ _ h1) (by simp)
              rw [← Nat.add_assoc] at h2; exact h2
            have r22 : wr.cell? ⟨d2, o2 + k * 3 + 2, none⟩ = some (.int .i64 x.locals) := by
              have h1 := flat_get EntD.cells 3 (fun _ => rfl) o.procs k 2 x hx (by omega)
              have h2 := hc.cellSome (hcell2 _ _ h1) (by simp)
              rw [← Nat.add_assoc] at h2; exact h2
            have HC := Lib.hid hc
            clear hcell1 hcell2 hat1 hat2 hx hc
            go_wp2_with fail
            go_region
            all_goals (try go_wp2)
            go_roundw
            case rel => exact ⟨k + 1, by omega, by go_num, HC.out.drew⟩
            case measure => simp [intOf]; omega
          · have HC := Lib.hid hc; clear hc
            have hkn : k = o.procs.length := by omega
            have p_6 : wr.cell? ⟨bo, 0 + 6, none⟩ = _ := HC.out.cellSome HA1.out.c6 (by simp)
            have q_6 : wr.cell? ⟨b2, 0 + 6, none⟩ = _ := HC.out.cellSome HA2.out.c6 (by simp)
            dsimp only at p_6 q_6
            go_wp2_with fail
            clear p_6 q_6 p_4 q_4 hlt hkn
            go_loopw [12] (fun i wr => ∃ k : Nat, k ≤ o.code.length ∧ i = .int .i64 k ∧ Chg [] w12 wr) (fun i _ => o.code.length - (intOf i).toNat)
            case atStart => exact ⟨0, Nat.zero_le _, rfl, HC.out⟩
            case round =>
            obtain ⟨k, hk, rfl, hc⟩ := hrel
            have p_4 : wr.cell? ⟨bo, 0 + 6, none⟩ = _ := hc.cellSome HA1.out.c6 (by simp)
            have q_4 : wr.cell? ⟨b2, 0 + 6, none⟩ = _ := hc.cellSome HA2.out.c6 (by simp)
            dsimp only at p_4 q_4
            by_cases hlt : k < o.code.length
            · obtain ⟨x, hx⟩ : ∃ x, o.code[k]? = some x := ⟨o.code[k], by simp [hlt]⟩
              have hat1 : At w12 ca (o.code.flatMap InstD.cells) := HA1.out.c
              have hat2 : At w12 ca2 (o.code.flatMap InstD.cells) := HA2.out.c
              obtain ⟨d1, o1, rfl, hcell1⟩ := hat1 (by rw [flat_len _ 3 (fun _ => rfl)]; omega)
              obtain ⟨d2, o2, rfl, hcell2⟩ := hat2 (by rw [flat_len _ 3 (fun _ => rfl)]; omega)
              have r10 : wr.cell? ⟨d1, o1 + k * 3, none⟩ = some (.int .i64 x.op) := by
                have h1 := flat_get InstD.cells 3 (fun _ => rfl) o.code k 0 x hx (by omega)
                have h2 := hc.cellSome (hcell1 _ _ h1) (by simp)
                exact h2
              have r11 : wr.cell? ⟨d1, o1 + k * 3 + 1, none⟩ = some (.int .i64 x.a) := by
                have h1 := flat_get InstD.cells 3 (fun _ => rfl) o.code k 1 x hx (by omega)
                have h2 := hc.cellSome (hcell1 _ _ h1) (by simp)
                rw [← Nat.add_assoc] at h2; exact h2
              have r12 : wr.cell? ⟨d1, o1 + k * 3 + 2, none⟩ = some (.int .i64 x.b) := by
                have h1 := flat_get InstD.cells 3 (fun _ => rfl) o.code k 2 x hx (by omega)
                have h2 := hc.cellSome (hcell1 _ _ h1) (by simp)
                rw [← Nat.add_assoc] at h2; exact h2
              have r20 : wr.cell? ⟨d2, o2 + k * 3, none⟩ = some (.int .i64 x.op) := by
                have h1 := flat_get InstD.cells 3 (fun _ => rfl) o.code k 0 x hx (by omega)
                have h2 := hc.cellSome (hcell2 _ _ h1) (by simp)
                exact h2
              have r21 : wr.cell? ⟨d2, o2 + k * 3 + 1, none⟩ = some (.int .i64 x.a) := by
                have h1 := flat_get InstD.cells 3 (fun _ => rfl) o.code k 1 x hx (by omega)
                have h2 := hc.cellSome (hcell2 _ _ h1) (by simp)
                rw [← Nat.add_assoc] at h2; exact h2
              have r22 : wr.cell? ⟨d2, o2 + k * 3 + 2, none⟩ = some (.int .i64 x.b) := by
                have h1 := flat_get InstD.cells 3 (fun _ => rfl) o.code k 2 x hx (by omega)
                have h2 := hc.cellSome (hcell2 _ _ h1) (by simp)
                rw [← Nat.add_assoc] at h2; exact h2
              have HC := Lib.hid hc
              clear hcell1 hcell2 hat1 hat2 hx hc
              go_wp2_with fail
              go_region
              all_goals (try go_wp2)
              go_roundw
              case rel => exact ⟨k + 1, by omega, by go_num, HC.out.drew⟩
              case measure => simp [intOf]; omega
            · have HC := Lib.hid hc; clear hc
              have hkn : k = o.code.length := by omega
              go_wp2_with fail
              go_ret
              exact ⟨rfl, HC12.out.then HC.out⟩
        · rw [HPT.out] at hno; cases hno
      · have hpa : parsed l = false := by rw [← HOK.out.1]; exact hok
        have HPT := Lib.hid hpa
        clear hok hpa
        go_wp2_with fail
        refine (HPA.out w9).mono ?_; rintro _ w10 ⟨hc, hres⟩
        have HC10 := Lib.hid (HC9.out.then hc); clear hc
        rcases hres with ⟨hno, _⟩ | ⟨_, rfl⟩
        · rw [HPT.out] at hno; cases hno
        · go_wp2_with fail
          refine (HB3.out w10 HC10.out).mono ?_; rintro _ w11 ⟨rfl, hc⟩
          have HC11 := Lib.hid (HC10.out.then hc); clear hc
          go_wp2_with fail
          refine (same_nil w11).mono ?_; rintro _ w12 ⟨rfl, hc⟩
          have HC12 := Lib.hid (HC11.out.then hc); clear hc
          go_wp2_with fail
          refine (HB3.out w12 HC12.out).mono ?_; rintro _ w13 ⟨rfl, hc⟩
          have HC13 := Lib.hid (HC12.out.then hc); clear hc
          go_wp2_with fail
          go_ret
          exact ⟨rfl, HC13.out⟩
    · go_wp2_with fail
      go_ret
      exact ⟨rfl, HC1.out⟩
  · simp only [if_true] at hW1 hW2
    have HSM := Lib.hid hsm; have HW1 := Lib.hid hW1; have HW2 := Lib.hid hW2; have HR1 := Lib.hid hR1; have HR2 := Lib.hid hR2; have HE := Lib.hid hE
    clear hsm hW1 hW2 hR1 hR2 hE
    go_enter Tryz.func3, Tryz.ntmps3
    go_wp2_with fail
    refine HSM.out.mono ?_; rintro _ w1 ⟨q, rfl, hq, hc⟩
    have HC1 := Lib.hid hc; clear hc
    cases q
    · go_wp2_with fail
      go_ret
      exact ⟨rfl, HC1.out⟩
    have HP := Lib.hid (hq rfl); clear hq
    cases hbig : decide ((1500 : Int) < (l.length : Int))
    · have hle : l.length ≤ 1500 := by have := of_decide_eq_false hbig; omega
      go_wp2_with fail
      refine (HW1.out HP.out w1 HC1.out).mono ?_; rintro _ w2 ⟨rfl, hc⟩
      have HC2 := Lib.hid (HC1.out.then hc); clear hc
      go_wp2_with fail
      refine (HW2.out HP.out w2 HC2.out).mono ?_; rintro _ w3 ⟨rfl, hc⟩
      have HC3 := Lib.hid (HC2.out.then hc); clear hc
      have HR3 := Lib.hid (fun w' (hc : Chg [] w w') => HR1.out HP.out w' hc)
      have HR4 := Lib.hid (fun w' (hc : Chg [] w w') => HR2.out HP.out w' hc)
      have HN1 := Lib.hid (fun w' => name_any l w' (by omega))
      have HN2 := Lib.hid (fun w' => rname_ans l w' (by omega))
      have HB1 := Lib.hid (fun w' (hc : Chg [] w w') => bare_nil w' (HE.out.kept hc (by simp)))
      have HB2 := Lib.hid (fun w' (hc : Chg [] w w') => bare_one w' (HE.out.kept hc (by simp)))
      have HB3 := Lib.hid (fun w' (hc : Chg [] w w') => bare_three w' (HE.out.kept hc (by simp)))
      have HPS := Lib.hid (pObj_small l (by omega))
      have HOK := Lib.hid (okRead_parsed (l := l) (by omega) (fun _ => HPS.out))
      go_wp2_with fail
      refine (HB1.out w3 HC3.out).mono ?_; rintro _ w4 ⟨rfl, hc⟩
      have HC4 := Lib.hid (HC3.out.then hc); clear hc
      go_wp2_with fail
      refine (HR3.out w4 HC4.out).mono ?_; rintro _ w5 ⟨rfl, hc⟩
      have HC5 := Lib.hid (HC4.out.then hc); clear hc
      go_wp2_with fail
      refine (HR4.out w5 HC5.out).mono ?_; rintro _ w6 ⟨rfl, hc⟩
      have HC6 := Lib.hid (HC5.out.then hc); clear hc
      go_wp2_with fail
      refine (HN1.out w6).mono ?_; rintro _ w7 ⟨rfl, hc⟩
      have HC7 := Lib.hid (HC6.out.then hc); clear hc
      go_wp2_with fail
      refine (HN2.out w7).mono ?_; rintro _ w8 ⟨rfl, hc⟩
      have HC8 := Lib.hid (HC7.out.then hc); clear hc
      have HRD := Lib.hid (rread_any rwrite_any l w8 (by omega))
      have HPA := Lib.hid (fun w' => parse_any l w' (by omega))
      go_wp2_with fail
      refine HRD.out.mono ?_; rintro _ w9 ⟨hc, hres⟩
      have HC9 := Lib.hid (HC8.out.then hc); clear hc
      rcases hres with ⟨hok, bo, M, rfl, hat⟩ | ⟨hok, rfl⟩
      · have hpa : parsed l = true := by rw [← HOK.out.1]; exact hok
        rw [HOK.out.2 hpa] at hat
        have HAT := Lib.hid hat; have HPT := Lib.hid hpa
        clear hok hpa hat
        go_wp2_with fail
        refine (HPA.out w9).mono ?_; rintro _ w10 ⟨hc, hres⟩
        have HCX := Lib.hid hc
        have HC10 := Lib.hid (HC9.out.then hc); clear hc
        rcases hres with ⟨_, b2, M2, rfl, hat2⟩ | ⟨hno, _⟩
        · have HA1 := Lib.hid (HAT.out.kept HCX.out (by simp)); have HA2 := Lib.hid hat2
          clear hat2
          go_wp2_with fail
          refine (HB1.out w10 HC10.out).mono ?_; rintro _ w11 ⟨rfl, hc⟩
          have HC11 := Lib.hid (HC10.out.then hc)
          have HA1 := Lib.hid (HA1.out.kept hc (by simp)); have HA2 := Lib.hid (HA2.out.kept hc (by simp)); clear hc
          have HSO := Lib.hid (same_obj _ _ _ _ _ _ _ _ _ w11 HA2.out HA1.out HPS.out)
          go_wp2_with fail
          refine HSO.out.mono ?_; rintro _ w12 ⟨rfl, hc⟩
          have HC12 := Lib.hid (HC11.out.then hc)
          have ha1 := HA1.out.kept hc (by simp); have ha2 := HA2.out.kept hc (by simp); clear hc
          have HA1 := Lib.hid ha1; have HA2 := Lib.hid ha2
          have p6 := ha1.c6
          have q6 := ha2.c6
          have p4 := ha1.c4
          have q4 := ha2.c4
          have hzc : (pObj l).code.length ≤ 1099511627776 := HPS.out.code
          have hzp : (pObj l).procs.length ≤ 1099511627776 := HPS.out.procs
          obtain ⟨sa, ua, va, pa, na, ca, sc, uc, vc, pc, nc, cc, us⟩ := M
          obtain ⟨sa2, ua2, va2, pa2, na2, ca2, sc2, uc2, vc2, pc2, nc2, cc2, us2⟩ := M2
          dsimp only at p4 p6 q4 q6
          clear ha1 ha2
          obtain ⟨o, ho⟩ : ∃ o, o = pObj l := ⟨_, rfl⟩
          rw [← ho] at p4 p6 q4 q6 hzc hzp HA1 HA2
          clear ho
          go_wp2_with fail
          go_region
          all_goals (try go_wp2_with fail)
          clear p4 q4 p6 q6
          go_loopw [11] (fun i wr => ∃ k : Nat, k ≤ o.procs.length ∧ i = .int .i64 k ∧ Chg [] w12 wr) (fun i _ => o.procs.length - (intOf i).toNat)
          case atStart => exact ⟨0, Nat.zero_le _, rfl, (Chg.refl [] w12).drew⟩
          case round =>
          obtain ⟨k, hk, rfl, hc⟩ := hrel
          have p_4 : wr.cell? ⟨bo, 0 + 4, none⟩ = _ := hc.cellSome HA1.out.c4 (by simp)
          have q_4 : wr.cell? ⟨b2, 0 + 4, none⟩ = _ := hc.cellSome HA2.out.c4 (by simp)
          dsimp only at p_4 q_4
          by_cases hlt : k < o.procs.length
          · obtain ⟨x, hx⟩ : ∃ x, o.procs[k]? = some x := ⟨o.procs[k], by simp [hlt]⟩
            have hat1 : At w12 pa (o.procs.flatMap EntD.cells) := HA1.out.p
            have hat2 : At w12 pa2 (o.procs.flatMap EntD.cells) := HA2.out.p
            obtain ⟨d1, o1, rfl, hcell1⟩ := hat1 (by rw [flat_len _ 3 (fun _ => rfl)]; omega)
            obtain ⟨d2, o2, rfl, hcell2⟩ := hat2 (by rw [flat_len _ 3 (fun _ => rfl)]; omega)
            have r10 : wr.cell? ⟨d1, o1 + k * 3, none⟩ = some (.int .i64 x.place) := by
              have h1 := flat_get EntD.cells 3 (fun _ => rfl) o.procs k 0 x hx (by omega)
              have h2 := hc.cellSome (hcell1 _ _ h1) (by simp)
              exact h2
            have r11 : wr.cell? ⟨d1, o1 + k * 3 + 1, none⟩ = some (.int .i64 x.args) := by
              have h1 := flat_get EntD.cells 3 (fun _ => rfl) o.procs k 1 x hx (by omega)
              have h2 := hc.cellSome (hcell1 _ _ h1) (by simp)
              rw [← Nat.add_assoc] at h2; exact h2
            have r12 : wr.cell? ⟨d1, o1 + k * 3 + 2, none⟩ = some (.int .i64 x.locals) := by
              have h1 := flat_get EntD.cells 3 (fun _ => rfl) o.procs k 2 x hx (by omega)
              have h2 := hc.cellSome (hcell1 _ _ h1) (by simp)
              rw [← Nat.add_assoc] at h2; exact h2
            have r20 : wr.cell? ⟨d2, o2 + k * 3, none⟩ = some (.int .i64 x.place) := by
              have h1 := flat_get EntD.cells 3 (fun _ => rfl) o.procs k 0 x hx (by omega)
              have h2 := hc.cellSome (hcell2 _ _ h1) (by simp)
              exact h2
            have r21 : wr.cell? ⟨d2, o2 + k * 3 + 1, none⟩ = some (.int .i64 x.args) := by
              have h1 := flat_get EntD.cells 3 (fun _ => rfl) o.procs k 1 x hx (by omega)
              have h2 := hc.cellSome (hcell2 _ _ h1) (by simp)
              rw [← Nat.add_assoc] at h2; exact h2
            have r22 : wr.cell? ⟨d2, o2 + k * 3 + 2, none⟩ = some (.int .i64 x.locals) := by
              have h1 := flat_get EntD.cells 3 (fun _ => rfl) o.procs k 2 x hx (by omega)
              have h2 := hc.cellSome (hcell2 _ _ h1) (by simp)
              rw [← Nat.add_assoc] at h2; exact h2
            have HC := Lib.hid hc
            clear hcell1 hcell2 hat1 hat2 hx hc
            go_wp2_with fail
            go_region
            all_goals (try go_wp2)
            go_roundw
            case rel => exact ⟨k + 1, by omega, by go_num, HC.out.drew⟩
            case measure => simp [intOf]; omega
          · have HC := Lib.hid hc; clear hc
            have hkn : k = o.procs.length := by omega
            have p_6 : wr.cell? ⟨bo, 0 + 6, none⟩ = _ := HC.out.cellSome HA1.out.c6 (by simp)
            have q_6 : wr.cell? ⟨b2, 0 + 6, none⟩ = _ := HC.out.cellSome HA2.out.c6 (by simp)
            dsimp only at p_6 q_6
            go_wp2_with fail
            clear p_6 q_6 p_4 q_4 hlt hkn
            go_loopw [12] (fun i wr => ∃ k : Nat, k ≤ o.code.length ∧ i = .int .i64 k ∧ Chg [] w12 wr) (fun i _ => o.code.length - (intOf i).toNat)
            case atStart => exact ⟨0, Nat.zero_le _, rfl, HC.out⟩
            case round =>
            obtain ⟨k, hk, rfl, hc⟩ := hrel
            have p_4 : wr.cell? ⟨bo, 0 + 6, none⟩ = _ := hc.cellSome HA1.out.c6 (by simp)
            have q_4 : wr.cell? ⟨b2, 0 + 6, none⟩ = _ := hc.cellSome HA2.out.c6 (by simp)
            dsimp only at p_4 q_4
            by_cases hlt : k < o.code.length
            · obtain ⟨x, hx⟩ : ∃ x, o.code[k]? = some x := ⟨o.code[k], by simp [hlt]⟩
              have hat1 : At w12 ca (o.code.flatMap InstD.cells) := HA1.out.c
              have hat2 : At w12 ca2 (o.code.flatMap InstD.cells) := HA2.out.c
              obtain ⟨d1, o1, rfl, hcell1⟩ := hat1 (by rw [flat_len _ 3 (fun _ => rfl)]; omega)
              obtain ⟨d2, o2, rfl, hcell2⟩ := hat2 (by rw [flat_len _ 3 (fun _ => rfl)]; omega)
              have r10 : wr.cell? ⟨d1, o1 + k * 3, none⟩ = some (.int .i64 x.op) := by
                have h1 := flat_get InstD.cells 3 (fun _ => rfl) o.code k 0 x hx (by omega)
                have h2 := hc.cellSome (hcell1 _ _ h1) (by simp)
                exact h2
              have r11 : wr.cell? ⟨d1, o1 + k * 3 + 1, none⟩ = some (.int .i64 x.a) := by
                have h1 := flat_get InstD.cells 3 (fun _ => rfl) o.code k 1 x hx (by omega)
                have h2 := hc.cellSome (hcell1 _ _ h1) (by simp)
                rw [← Nat.add_assoc] at h2; exact h2
              have r12 : wr.cell? ⟨d1, o1 + k * 3 + 2, none⟩ = some (.int .i64 x.b) := by
                have h1 := flat_get InstD.cells 3 (fun _ => rfl) o.code k 2 x hx (by omega)
                have h2 := hc.cellSome (hcell1 _ _ h1) (by simp)
                rw [← Nat.add_assoc] at h2; exact h2
              have r20 : wr.cell? ⟨d2, o2 + k * 3, none⟩ = some (.int .i64 x.op) := by
                have h1 := flat_get InstD.cells 3 (fun _ => rfl) o.code k 0 x hx (by omega)
                have h2 := hc.cellSome (hcell2 _ _ h1) (by simp)
                exact h2
              have r21 : wr.cell? ⟨d2, o2 + k * 3 + 1, none⟩ = some (.int .i64 x.a) := by
                have h1 := flat_get InstD.cells 3 (fun _ => rfl) o.code k 1 x hx (by omega)
                have h2 := hc.cellSome (hcell2 _ _ h1) (by simp)
                rw [← Nat.add_assoc] at h2; exact h2
              have r22 : wr.cell? ⟨d2, o2 + k * 3 + 2, none⟩ = some (.int .i64 x.b) := by
                have h1 := flat_get InstD.cells 3 (fun _ => rfl) o.code k 2 x hx (by omega)
                have h2 := hc.cellSome (hcell2 _ _ h1) (by simp)
                rw [← Nat.add_assoc] at h2; exact h2
              have HC := Lib.hid hc
              clear hcell1 hcell2 hat1 hat2 hx hc
              go_wp2_with fail
              go_region
              all_goals (try go_wp2)
              go_roundw
              case rel => exact ⟨k + 1, by omega, by go_num, HC.out.drew⟩
              case measure => simp [intOf]; omega
            · have HC := Lib.hid hc; clear hc
              have hkn : k = o.code.length := by omega
              go_wp2_with fail
              go_ret
              exact ⟨rfl, HC12.out.then HC.out⟩
        · rw [HPT.out] at hno; cases hno
      · have hpa : parsed l = false := by rw [← HOK.out.1]; exact hok
        have HPT := Lib.hid hpa
        clear hok hpa
        go_wp2_with fail
        refine (HPA.out w9).mono ?_; rintro _ w10 ⟨hc, hres⟩
        have HC10 := Lib.hid (HC9.out.then hc); clear hc
        rcases hres with ⟨hno, _⟩ | ⟨_, rfl⟩
        · rw [HPT.out] at hno; cases hno
        · go_wp2_with fail
          refine (HB3.out w10 HC10.out).mono ?_; rintro _ w11 ⟨rfl, hc⟩
          have HC11 := Lib.hid (HC10.out.then hc); clear hc
          go_wp2_with fail
          refine (same_nil w11).mono ?_; rintro _ w12 ⟨rfl, hc⟩
          have HC12 := Lib.hid (HC11.out.then hc); clear hc
          go_wp2_with fail
          refine (HB3.out w12 HC12.out).mono ?_; rintro _ w13 ⟨rfl, hc⟩
          have HC13 := Lib.hid (HC12.out.then hc); clear hc
          go_wp2_with fail
          go_ret
          exact ⟨rfl, HC13.out⟩
    · go_wp2_with fail
      go_ret
      exact ⟨rfl, HC1.out⟩
end Go.Proofs.YtjgfclhempjinaaGreatDoor
