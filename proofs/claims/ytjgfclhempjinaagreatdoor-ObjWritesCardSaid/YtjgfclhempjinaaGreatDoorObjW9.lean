/- obj.Right (laid by gen_w9.py). -/
import Derived.Test.YtjgfclhempjinaaGreatDoorObjW8
import Derived.Test.YtjgfclhempjinaaGreatDoorObjW6
namespace Go.Proofs.YtjgfclhempjinaaGreatDoor
open Go Go.RowKit Go.Mq Go.Mq.Obj
set_option maxRecDepth 100000

theorem right1_any (B b off : Nat) (o : ObjD) (M : ObjM) (x : InstD) (bo : Nat) (w : World) (h : ObjAt w B b off o M) (hs : o.small) (ho : w.cell? ⟨bo, 0, none⟩ = some (.pointer (some ⟨b, off, none⟩))) :
    Calls Tryz.prog 27 #[.agg #[.int .i64 x.op, .int .i64 x.a, .int .i64 x.b], .pointer (some ⟨bo, 0, none⟩)] w (Ans w (.bool (!instOK o x))) := by
  have hc : Chg [] w (w.alloc (.cells #[.int .i64 x.op, .int .i64 x.a, .int .i64 x.b] 49)) := (Chg.refl [] w).alloc _
  have hi := inst_any B b off o M x _ (h.kept hc (by simp)) hs
  have hlt := lt_of_cell ho
  cases hv : instOK o x
  all_goals
    rw [hv] at hi
    have HI := Lib.hid hi; have HC := Lib.hid hc
    clear hi hc h hs hv
    go_enter Tryz.func27, Tryz.ntmps27
    go_wp2_with fail
    refine HI.out.mono ?_; rintro _ w1 ⟨rfl, hw⟩
    have HW := Lib.hid hw; clear hw
    go_wp2_with fail
    go_ret
    exact ⟨rfl, HC.out.then HW.out⟩

theorem idx_inst (bo : Nat) (a : Option Addr) (n cap : Nat) (l : List InstD) (p : InstD → Bool) (w : World) (hn : n = l.length) (hlen : n ≤ 1099511627776) (hat : At w a (l.flatMap InstD.cells))
    (hf : ∀ x ∈ l, ∀ w', Chg [] w w' → Calls Tryz.prog 27 #[.agg #[.int .i64 x.op, .int .i64 x.a, .int .i64 x.b], .pointer (some ⟨bo, 0, none⟩)] w' (Ans w' (.bool (p x)))) :
    Calls Tryz.prog 57 #[.slice a n cap, .func (.func 27) #[] #[.pointer (some ⟨bo, 0, none⟩)]] w (fun e w' => ∃ r : Int, e = .returned (.int .i64 r) ∧ (0 ≤ r ↔ l.any p = true) ∧ Chg [] w w') := by
  have HF := Lib.hid hf
  have HA := Lib.hid hat
  have HN := Lib.hid hn
  clear hf hat hn
  go_enter Tryz.func57, Tryz.ntmps57
  go_wp2_with fail
  go_loopw [5, 8] (fun _ i wr => ∃ k : Nat, k ≤ n ∧ i = .int .i64 k ∧ (l.take k).any p = false ∧ Chg [] w wr) (fun _ i _ => n - (intOf i).toNat)
  case atStart => exact ⟨0, Nat.zero_le _, rfl, by simp, Chg.refl _ _⟩
  case round =>
    obtain ⟨k, hk, rfl, hall, hc⟩ := hrel
    have HALL := Lib.hid hall; clear hall
    by_cases hlt : k < n
    · have hkl : k < l.length := by rw [← HN.out]; exact hlt
      obtain ⟨x, hx⟩ : ∃ x, l[k]? = some x := ⟨l[k], by simp [hkl]⟩
      have hcl := HF.out x (List.mem_of_getElem? hx) wr hc
      obtain ⟨b, off, rfl, hcell⟩ := HA.out (by rw [flat_len _ 3 (fun _ => rfl)]; omega)
      have hcs : ∀ j, j < 3 → wr.cell? ⟨b, off + (k * 3 + j), none⟩ = (InstD.cells x)[j]? := fun j hj => by
        have h1 := flat_get InstD.cells 3 (fun _ => rfl) l k j x hx hj
        have h2 : j < (InstD.cells x).length := hj
        rw [List.getElem?_eq_getElem h2] at h1 ⊢
        exact hc.cellSome (hcell _ _ (by simpa using h1)) (by simp)
      have hc0 : wr.cell? ⟨b, off + k * 3, none⟩ = some (.int .i64 x.op) := by have := hcs 0 (by omega); rw [← Nat.add_assoc] at this; exact this
      have hc1 : wr.cell? ⟨b, off + k * 3 + 1, none⟩ = some (.int .i64 x.a) := by have := hcs 1 (by omega); rw [← Nat.add_assoc] at this; exact this
      have hc2 : wr.cell? ⟨b, off + k * 3 + 2, none⟩ = some (.int .i64 x.b) := by have := hcs 2 (by omega); rw [← Nat.add_assoc] at this; exact this
      have HX := Lib.hid hx
      have HCL := Lib.hid hcl
      have HC := Lib.hid hc
      clear hcs hcell hx hcl hc
      cases hp : p x
      all_goals
        have HP := Lib.hid hp
        rw [hp] at HCL
        clear hp
        go_wp2_with fail
        refine HCL.out.mono ?_
        rintro e w1 ⟨rfl, hc1⟩
        have HC1 := Lib.hid hc1; clear hc1
        go_wp2_with fail
      · go_roundw
        case rel =>
          refine ⟨k + 1, by omega, by go_num, ?_, HC.out.then HC1.out⟩
          rw [List.take_add_one, HX.out]
          simp [HALL.out, HP.out]
        case measure => simp [intOf]; omega
      · go_ret
        refine ⟨k, rfl, ?_, HC.out.then HC1.out⟩
        refine ⟨fun _ => List.any_eq_true.2 ⟨x, List.mem_of_getElem? HX.out, HP.out⟩, fun _ => by omega⟩
    · have HC := Lib.hid hc; clear hc
      have HK := Lib.hid (show k = n by omega)
      go_wp2_with fail
      go_ret
      refine ⟨-1, rfl, ?_, HC.out⟩
      have h := HALL.out
      rw [HK.out, HN.out, List.take_length] at h
      rw [h]
      simp

theorem any_inst (bo : Nat) (a : Option Addr) (n cap : Nat) (l : List InstD) (p : InstD → Bool) (w : World) (hn : n = l.length) (hlen : n ≤ 1099511627776) (hat : At w a (l.flatMap InstD.cells))
    (hf : ∀ x ∈ l, ∀ w', Chg [] w w' → Calls Tryz.prog 27 #[.agg #[.int .i64 x.op, .int .i64 x.a, .int .i64 x.b], .pointer (some ⟨bo, 0, none⟩)] w' (Ans w' (.bool (p x)))) :
    Calls Tryz.prog 26 #[.slice a n cap, .func (.func 27) #[] #[.pointer (some ⟨bo, 0, none⟩)]] w (Ans w (.bool (l.any p))) := by
  have hI := idx_inst bo a n cap l p w hn hlen hat hf
  have HI := Lib.hid hI
  clear hI hf hat hn
  go_enter Tryz.func26, Tryz.ntmps26
  go_wp2_with fail
  refine HI.out.mono ?_
  rintro e w1 ⟨r, rfl, hr, hc⟩
  have HR := Lib.hid hr; have HC := Lib.hid hc
  clear hr hc
  go_wp2
  go_ret
  refine ⟨?_, HC.out⟩
  show Ending.returned (.bool (decide (0 ≤ r))) = _
  have : decide (0 ≤ r) = l.any p := by rw [Bool.eq_iff_iff]; simpa using HR.out
  rw [this]

theorem right_cases (o : ObjD) : (decide ((o.code.length : Int) < 1) = true ∧ right o = false) ∨
    (decide ((o.code.length : Int) < 1) = false ∧ decide ((4000 : Int) < (o.code.length : Int)) = true ∧ right o = false) ∨
    (decide ((o.code.length : Int) < 1) = false ∧ decide ((4000 : Int) < (o.code.length : Int)) = false ∧ partsOK o = false ∧ right o = false) ∨
    (decide ((o.code.length : Int) < 1) = false ∧ decide ((4000 : Int) < (o.code.length : Int)) = false ∧ partsOK o = true ∧ right o = (lastOK o.code && !(o.code.any fun x => !instOK o x))) := by
  have e3 : o.code.all (instOK o) = !(o.code.any fun x => !instOK o x) := by rw [List.not_any_eq_all_not]; simp
  have e : right o = (!decide ((o.code.length : Int) < 1) && !decide ((4000 : Int) < (o.code.length : Int)) && partsOK o && (lastOK o.code && !(o.code.any fun x => !instOK o x))) := by
    have e1 : decide (1 ≤ o.code.length) = !decide ((o.code.length : Int) < 1) := by rw [Bool.eq_iff_iff]; simp; omega
    have e2 : decide (o.code.length ≤ 4000) = !decide ((4000 : Int) < (o.code.length : Int)) := by rw [Bool.eq_iff_iff]; simp; omega
    simp only [right, e1, e2, e3, Bool.and_assoc]
  rw [e]
  generalize decide ((o.code.length : Int) < 1) = b1
  generalize decide ((4000 : Int) < (o.code.length : Int)) = b2
  generalize partsOK o = b3
  generalize (lastOK o.code && !(o.code.any fun x => !instOK o x)) = b4
  clear e e3
  revert b1 b2 b3 b4; decide

set_option maxHeartbeats 4000000 in
theorem right_any (B b off : Nat) (o : ObjD) (M : ObjM) (w : World) (h : ObjAt w B b off o M) (hs : o.small) :
    Calls Tryz.prog 8 #[.pointer (some ⟨b, off, none⟩)] w (Ans w (.bool (right o))) := by
  obtain ⟨sa, ua, va, pa, na, ca, sc, uc, vc, pc, nc, cc, us⟩ := M
  have hc : Chg [] w (w.alloc (.cells #[.pointer (some ⟨b, off, none⟩)] 22)) := (Chg.refl [] w).alloc _
  have hk := h.kept hc (by simp)
  have hp := parts_any B b off o _ _ hk hs
  have hzc : o.code.length ≤ 1099511627776 := hs.code
  have h6 := h.c6
  dsimp only at h6
  have hlt := h.blt
  have HC := Lib.hid hc
  rcases right_cases o with ⟨t1, th⟩ | ⟨t1, t2, th⟩ | ⟨t1, t2, t3, th⟩ | ⟨t1, t2, t3, th⟩
  · have TH := Lib.hid th; have HP := Lib.hid hp
    clear h hs hk hp th hc
    go_enter Tryz.func8, Tryz.ntmps8
    go_wp2_with fail
    go_ret
    rw [TH.out]
    exact ⟨rfl, HC.out⟩
  · have TH := Lib.hid th; have HP := Lib.hid hp
    clear h hs hk hp th hc
    go_enter Tryz.func8, Tryz.ntmps8
    go_wp2_with fail
    go_ret
    rw [TH.out]
    exact ⟨rfl, HC.out⟩
  · rw [t3] at hp
    have TH := Lib.hid th; have HP := Lib.hid hp
    clear h hs hk hp th hc t3
    go_enter Tryz.func8, Tryz.ntmps8
    go_wp2_with fail
    refine HP.out.mono ?_; rintro _ w1 ⟨rfl, hw⟩
    have HW := Lib.hid hw; clear hw
    go_wp2_with fail
    go_ret
    rw [TH.out]
    exact ⟨rfl, HC.out.then HW.out⟩
  · rw [t3] at hp
    have hlen : 0 < o.code.length := by have := of_decide_eq_false t1; omega
    obtain ⟨k, hk1⟩ : ∃ k, o.code.length = k + 1 := ⟨o.code.length - 1, by omega⟩
    obtain ⟨x, hx⟩ : ∃ x, o.code[k]? = some x := ⟨o.code[k], by simp [hk1]⟩
    have hat : At w ca (o.code.flatMap InstD.cells) := h.c
    obtain ⟨bb, boff, rfl, hcell⟩ := hat (by rw [flat_len _ 3 (fun _ => rfl)]; omega)
    have hc0 : w.cell? ⟨bb, boff + k * 3, none⟩ = some (.int .i64 x.op) := by
      have h1 := flat_get InstD.cells 3 (fun _ => rfl) o.code k 0 x hx (by omega)
      exact hcell _ _ h1
    have hll : o.code.getLast? = some x := by rw [List.getLast?_eq_getElem?, hk1]; exact hx
    have TH := Lib.hid th; have HP := Lib.hid hp; have H := Lib.hid h; have HS := Lib.hid hs
    have HK1 := Lib.hid hk1
    rw [hk1, show ((k + 1 : Nat) : Int) = (k : Int) + 1 from rfl] at t1 t2
    have q : (x.op != 12) = false ∨ ((x.op != 12) = true ∧ (x.op != 15) = false) ∨ ((x.op != 12) = true ∧ (x.op != 15) = true ∧ (x.op != 17) = false) ∨ ((x.op != 12) = true ∧ (x.op != 15) = true ∧ (x.op != 17) = true) := by
      cases (x.op != 12) <;> cases (x.op != 15) <;> cases (x.op != 17) <;> simp
    have hLL : lastOK o.code = !((x.op != 12) && (x.op != 15) && (x.op != 17)) := by
      rw [show lastOK o.code = (decide (x.op = 12) || decide (x.op = 15) || decide (x.op = 17)) by simp [lastOK, hll]]
      rw [Bool.eq_iff_iff]; simp [Bool.or_assoc]
    cases hany : (o.code.any fun x => !instOK o x)
    all_goals
      rcases q with q1 | ⟨q1, q2⟩ | ⟨q1, q2, q3⟩ | ⟨q1, q2, q3⟩
      all_goals
        have hR : right o = (lastOK o.code && !(o.code.any fun x => !instOK o x)) := TH.out
        first | rw [hLL, hany, q1, q2, q3] at hR | rw [hLL, hany, q1, q2] at hR | rw [hLL, hany, q1] at hR
        simp only [Bool.false_and, Bool.true_and, Bool.and_false, Bool.and_true, Bool.not_true, Bool.not_false] at hR
        have HR := Lib.hid hR
        have HY := Lib.hid hany
        clear h hs hk hp th t3 hx hll hcell hat hc hlen hR hLL TH hany
        go_enter Tryz.func8, Tryz.ntmps8
        go_wp2_with fail
        refine HP.out.mono ?_; rintro _ w1 ⟨rfl, hw⟩
        have hS := HC.out.then hw
        have b0 := ((Blk.new w #[.pointer (some ⟨b, off, none⟩)] 22).kept hw (by simp)).cell 0 _ rfl
        have HW := Lib.hid hw; clear hw
        have q6 := hS.cellSome h6 (by simp)
        have q0 := hS.cellSome hc0 (by simp)
        have HSS := Lib.hid hS
        clear h6 hc0 hS
        have z1 := Lib.hid (Zone.of (X := []) (w0 := w1.drew) b0 (by simp))
        have z2 := Lib.hid (Zone.of (X := []) (w0 := w1.drew) q6 (by simp))
        have z3 := Lib.hid (Zone.of (X := []) (w0 := w1.drew) q0 (by simp))
        have hcf := any_inst w.heap.size (some ⟨bb, boff, none⟩) (k + 1) cc o.code (fun x => !instOK o x) w1.drew HK1.out.symm (by omega) ((H.out.c.kept HSS.out (by simp)).kept (Chg.drew (Chg.refl [] w1)) (by simp))
          (fun x _ w2 hc2 => right1_any B b off o _ x w.heap.size w2 (((H.out.kept HSS.out (by simp)).kept (Chg.drew (Chg.refl [] w1)) (by simp)).kept hc2 (by simp)) HS.out (hc2.cellSome (show w1.drew.cell? ⟨w.heap.size, 0, none⟩ = _ from b0) (by simp)))
        rw [HY.out] at hcf
        have HCF := Lib.hid hcf; clear hcf
        go_wp2_with fail
        refine wp_region_C [] rfl (by kernel_rfl) ?_
        have hS : Chg [] w1.drew w1.drew := Chg.refl _ _
        repeat
          (with_reducible show wpX _ _ _ _ _ _ _ _
           first
             | refine wpX_nil ?_
             | refine wpX_skip rfl ?_
             | refine wpX_mv rfl rfl (by kernel_rfl) (fun _ _ => ?_)
             | refine wpX_ldC rfl rfl rfl (by first | exact z1.out | exact z2.out | exact z3.out) (by assumption) (fun _ _ => ?_)
             | refine wpX_ef' rfl rfl rfl (fun _ _ => ?_)
           go_wp2_with fail)
        first
          | (refine HCF.out.mono ?_; rintro _ w3 ⟨rfl, hw3⟩
             have HW3 := Lib.hid hw3; clear hw3
             go_wp2_with fail
             go_ret
             rw [HR.out]
             exact ⟨rfl, HSS.out.drew.then HW3.out⟩)
          | (go_ret
             rw [HR.out]
             exact ⟨rfl, HSS.out.drew⟩)
end Go.Proofs.YtjgfclhempjinaaGreatDoor
