/- obj.inst (laid by gen_w8.py). -/
import Derived.Test.YtjgfclhempjinaaGreatDoorObjW7
import Derived.Deep.Cut
namespace Go.Proofs.YtjgfclhempjinaaGreatDoor
open Go Go.RowKit Go.Mq Go.Mq.Obj

def InstD.val (x : InstD) : Value := .agg x.cells.toArray
theorem inst_eq0 (n : Int) : decide (n = 0) = (n == 0) := by rw [Bool.eq_iff_iff]; simp

theorem instOK_1 (o : ObjD) (a b : Int) : instOK o ⟨1, a, b⟩ = (b == 0) := by simp [instOK, inst_eq0]
theorem instOK_3 (o : ObjD) (a b : Int) : instOK o ⟨3, a, b⟩ = (inB a 10 && (b == 0)) := by simp [instOK, inst_eq0]
theorem instOK_4 (o : ObjD) (a b : Int) : instOK o ⟨4, a, b⟩ = (inB a 10 && (b == 0)) := by simp [instOK, inst_eq0]
theorem instOK_5 (o : ObjD) (a b : Int) : instOK o ⟨5, a, b⟩ = thereOK o ⟨5, a, b⟩ o.vars.length := by simp [instOK, inst_eq0]
theorem instOK_7 (o : ObjD) (a b : Int) : instOK o ⟨7, a, b⟩ = thereOK o ⟨7, a, b⟩ o.vars.length := by simp [instOK, inst_eq0]
theorem instOK_6 (o : ObjD) (a b : Int) : instOK o ⟨6, a, b⟩ = (inB a o.vars.length && (b == 0)) := by simp [instOK, inst_eq0]
theorem instOK_8 (o : ObjD) (a b : Int) : instOK o ⟨8, a, b⟩ = (inB a o.vars.length && (b == 0)) := by simp [instOK, inst_eq0]
theorem instOK_9 (o : ObjD) (a b : Int) : instOK o ⟨9, a, b⟩ = (inB a 11 && (b == 0)) := by simp [instOK, inst_eq0]
theorem instOK_12 (o : ObjD) (a b : Int) : instOK o ⟨12, a, b⟩ = (inB a o.code.length && (b == 0)) := by simp [instOK, inst_eq0]
theorem instOK_13 (o : ObjD) (a b : Int) : instOK o ⟨13, a, b⟩ = (inB a o.code.length && (b == 0)) := by simp [instOK, inst_eq0]
theorem instOK_14 (o : ObjD) (a b : Int) : instOK o ⟨14, a, b⟩ = thereOK o ⟨14, a, b⟩ o.procs.length := by simp [instOK, inst_eq0]
theorem instOK_2 (o : ObjD) (a b : Int) : instOK o ⟨2, a, b⟩ = ((a == 0) && (b == 0)) := by simp [instOK, inst_eq0]
theorem instOK_10 (o : ObjD) (a b : Int) : instOK o ⟨10, a, b⟩ = ((a == 0) && (b == 0)) := by simp [instOK, inst_eq0]
theorem instOK_11 (o : ObjD) (a b : Int) : instOK o ⟨11, a, b⟩ = ((a == 0) && (b == 0)) := by simp [instOK, inst_eq0]
theorem instOK_15 (o : ObjD) (a b : Int) : instOK o ⟨15, a, b⟩ = ((a == 0) && (b == 0)) := by simp [instOK, inst_eq0]
theorem instOK_16 (o : ObjD) (a b : Int) : instOK o ⟨16, a, b⟩ = ((a == 0) && (b == 0)) := by simp [instOK, inst_eq0]
theorem instOK_17 (o : ObjD) (a b : Int) : instOK o ⟨17, a, b⟩ = ((a == 0) && (b == 0)) := by simp [instOK, inst_eq0]
theorem instOK_none (o : ObjD) (op a b : Int) (h : ∀ n : Nat, 1 ≤ n → n ≤ 17 → op ≠ (n : Int)) : instOK o ⟨op, a, b⟩ = false := by
  have h1 : op ≠ 1 := h 1 (by omega) (by omega)
  have h2 : op ≠ 2 := h 2 (by omega) (by omega)
  have h3 : op ≠ 3 := h 3 (by omega) (by omega)
  have h4 : op ≠ 4 := h 4 (by omega) (by omega)
  have h5 : op ≠ 5 := h 5 (by omega) (by omega)
  have h6 : op ≠ 6 := h 6 (by omega) (by omega)
  have h7 : op ≠ 7 := h 7 (by omega) (by omega)
  have h8 : op ≠ 8 := h 8 (by omega) (by omega)
  have h9 : op ≠ 9 := h 9 (by omega) (by omega)
  have h10 : op ≠ 10 := h 10 (by omega) (by omega)
  have h11 : op ≠ 11 := h 11 (by omega) (by omega)
  have h12 : op ≠ 12 := h 12 (by omega) (by omega)
  have h13 : op ≠ 13 := h 13 (by omega) (by omega)
  have h14 : op ≠ 14 := h 14 (by omega) (by omega)
  have h15 : op ≠ 15 := h 15 (by omega) (by omega)
  have h16 : op ≠ 16 := h 16 (by omega) (by omega)
  have h17 : op ≠ 17 := h 17 (by omega) (by omega)
  simp [instOK, h1, h2, h3, h4, h5, h6, h7, h8, h9, h10, h11, h12, h13, h14, h15, h16, h17]

abbrev instW (w : World) (b off : Nat) (op xa xb : Int) : World := ((w.alloc (.cells #[.pointer (some ⟨b, off, none⟩)] 22)).alloc (.cells #[.int .i64 op, .int .i64 xa, .int .i64 xb] 49)).alloc (.cells #[.func (.func 58) #[] #[]] 100)
theorem inst_world (w : World) (b off : Nat) (op xa xb : Int) : Chg [] w (instW w b off op xa xb) ∧ (instW w b off op xa xb).cell? ⟨w.heap.size, 0, none⟩ = some (.pointer (some ⟨b, off, none⟩)) ∧
    (instW w b off op xa xb).cell? ⟨w.heap.size + 1, 0, none⟩ = some (.int .i64 op) ∧ (instW w b off op xa xb).cell? ⟨w.heap.size + 1, 1, none⟩ = some (.int .i64 xa) ∧ (instW w b off op xa xb).cell? ⟨w.heap.size + 1, 2, none⟩ = some (.int .i64 xb) ∧
    (instW w b off op xa xb).cell? ⟨w.heap.size + 1 + 1, 0, none⟩ = some (.func (.func 58) #[] #[]) := by
  have b0 := (Blk.new w #[.pointer (some ⟨b, off, none⟩)] 22).kept (((Chg.refl [] _).alloc (.cells #[.int .i64 op, .int .i64 xa, .int .i64 xb] 49)).alloc (.cells #[.func (.func 58) #[] #[]] 100)) (by simp)
  have b1 := (Blk.new (w.alloc (.cells #[.pointer (some ⟨b, off, none⟩)] 22)) #[.int .i64 op, .int .i64 xa, .int .i64 xb] 49).kept ((Chg.refl [] _).alloc (.cells #[.func (.func 58) #[] #[]] 100)) (by simp)
  have b2 := Blk.new ((w.alloc (.cells #[.pointer (some ⟨b, off, none⟩)] 22)).alloc (.cells #[.int .i64 op, .int .i64 xa, .int .i64 xb] 49)) #[.func (.func 58) #[] #[]] 100
  have e1 : (w.alloc (.cells #[.pointer (some ⟨b, off, none⟩)] 22)).heap.size = w.heap.size + 1 := by simp
  have e2 : ((w.alloc (.cells #[.pointer (some ⟨b, off, none⟩)] 22)).alloc (.cells #[.int .i64 op, .int .i64 xa, .int .i64 xb] 49)).heap.size = w.heap.size + 1 + 1 := by simp
  rw [e1] at b1
  rw [e2] at b2
  exact ⟨(((Chg.refl [] w).alloc _).alloc _).alloc _, b0.cell 0 _ rfl, b1.cell 0 _ rfl, b1.cell 1 _ rfl, b1.cell 2 _ rfl, b2.cell 0 _ rfl⟩

set_option maxHeartbeats 4000000 in
set_option maxRecDepth 100000 in
theorem inst_any (B b off : Nat) (o : ObjD) (M : ObjM) (x : InstD) (w : World) (h : ObjAt w B b off o M) (hs : o.small) :
    Calls Tryz.prog 28 #[.pointer (some ⟨b, off, none⟩), InstD.val x] w (Ans w (.bool (instOK o x))) := by
  obtain ⟨op, xa, xb⟩ := x
  obtain ⟨sa, ua, va, pa, na, ca, sc, uc, vc, pc, nc, cc, us⟩ := M
  have hzv : o.vars.length ≤ 1099511627776 := hs.vars.1
  have hzp : o.procs.length ≤ 1099511627776 := hs.procs
  have hzc : o.code.length ≤ 1099511627776 := hs.code
  have h3 := h.c3
  have h4 := h.c4
  have h6 := h.c6
  dsimp only at h3 h4 h6
  have hlt := h.blt
  have H := Lib.hid h; have HS := Lib.hid hs
  clear h hs
  unfold InstD.val InstD.cells
  dsimp only
  by_cases hop : ∃ n : Nat, 1 ≤ n ∧ n ≤ 17 ∧ op = (n : Int)
  · obtain ⟨n, hn1, hn2, rfl⟩ := hop
    have hn : n = 1 ∨ n = 2 ∨ n = 3 ∨ n = 4 ∨ n = 5 ∨ n = 6 ∨ n = 7 ∨ n = 8 ∨ n = 9 ∨ n = 10 ∨ n = 11 ∨ n = 12 ∨ n = 13 ∨ n = 14 ∨ n = 15 ∨ n = 16 ∨ n = 17 := by omega
    clear hn1 hn2
    rcases hn with rfl | rfl | rfl | rfl | rfl | rfl | rfl | rfl | rfl | rfl | rfl | rfl | rfl | rfl | rfl | rfl | rfl
    · rw [show (((1 : Nat) : Int)) = (1 : Int) from rfl, instOK_1]
      go_enter Tryz.func28, Tryz.ntmps28
      go_wp2_with fail
      go_ret
      exact ⟨rfl, (((Chg.refl [] w).alloc _).alloc _).alloc _⟩
    · rw [show (((2 : Nat) : Int)) = (2 : Int) from rfl, instOK_2]
      cases ha : (xa == 0)
      all_goals
        have HA := Lib.hid ha
        go_enter Tryz.func28, Tryz.ntmps28
        go_wp2_with fail
        go_ret
        first | rw [Bool.true_and] | rw [Bool.false_and]
        exact ⟨rfl, (((Chg.refl [] w).alloc _).alloc _).alloc _⟩
    · rw [show (((3 : Nat) : Int)) = (3 : Int) from rfl, instOK_3]
      cases hi : inB xa 10
      all_goals
        have hin := fun w' => in_any xa 10 w'
        rw [show (decide (0 ≤ xa) && decide (xa < 10)) = inB xa 10 from rfl, hi] at hin
        have HI := Lib.hid hin; clear hin hi
        go_enter Tryz.func28, Tryz.ntmps28
        go_upto_region 4 with fail
        obtain ⟨hW, q0, q1, q2, q3, q4⟩ := inst_world w b off 3 xa xb
        unfold instW at hW q0 q1 q2 q3 q4
        generalize hw0 : ((w.alloc (.cells #[.pointer (some ⟨b, off, none⟩)] 22)).alloc (.cells #[.int .i64 3, .int .i64 xa, .int .i64 xb] 49)).alloc (.cells #[.func (.func 58) #[] #[]] 100) = w0 at hW q0 q1 q2 q3 q4 ⊢
        have h3' := hW.cellSome h3 (by simp)
        have h4' := hW.cellSome h4 (by simp)
        have h6' := hW.cellSome h6 (by simp)
        clear hw0 h3 h4 h6
        have HW := Lib.hid hW
        have L1 := Lib.hid (show w.heap.size + 1 < w0.heap.size from lt_of_cell q1)
        clear hW h3' h4' h6'
        go_wp2_with fail
        refine (HI.out _).mono ?_; rintro _ w1 ⟨rfl, hw⟩
        have k1 := Chg.cells hw L1.out (by simp)
        have HW1 := Lib.hid hw; clear hw
        go_wp2_with fail
        go_ret
        first | rw [Bool.true_and] | rw [Bool.false_and]
        exact ⟨rfl, HW.out.then HW1.out⟩
    · rw [show (((4 : Nat) : Int)) = (4 : Int) from rfl, instOK_4]
      cases hi : inB xa 10
      all_goals
        have hin := fun w' => in_any xa 10 w'
        rw [show (decide (0 ≤ xa) && decide (xa < 10)) = inB xa 10 from rfl, hi] at hin
        have HI := Lib.hid hin; clear hin hi
        go_enter Tryz.func28, Tryz.ntmps28
        go_upto_region 4 with fail
        obtain ⟨hW, q0, q1, q2, q3, q4⟩ := inst_world w b off 4 xa xb
        unfold instW at hW q0 q1 q2 q3 q4
        generalize hw0 : ((w.alloc (.cells #[.pointer (some ⟨b, off, none⟩)] 22)).alloc (.cells #[.int .i64 4, .int .i64 xa, .int .i64 xb] 49)).alloc (.cells #[.func (.func 58) #[] #[]] 100) = w0 at hW q0 q1 q2 q3 q4 ⊢
        have h3' := hW.cellSome h3 (by simp)
        have h4' := hW.cellSome h4 (by simp)
        have h6' := hW.cellSome h6 (by simp)
        clear hw0 h3 h4 h6
        have HW := Lib.hid hW
        have L1 := Lib.hid (show w.heap.size + 1 < w0.heap.size from lt_of_cell q1)
        clear hW h3' h4' h6'
        go_wp2_with fail
        refine (HI.out _).mono ?_; rintro _ w1 ⟨rfl, hw⟩
        have k1 := Chg.cells hw L1.out (by simp)
        have HW1 := Lib.hid hw; clear hw
        go_wp2_with fail
        go_ret
        first | rw [Bool.true_and] | rw [Bool.false_and]
        exact ⟨rfl, HW.out.then HW1.out⟩
    · rw [show (((5 : Nat) : Int)) = (5 : Int) from rfl, instOK_5]
      go_enter Tryz.func28, Tryz.ntmps28
      go_upto_region 4 with fail
      obtain ⟨hW, q0, q1, q2, q3, q4⟩ := inst_world w b off 5 xa xb
      unfold instW at hW q0 q1 q2 q3 q4
      generalize hw0 : ((w.alloc (.cells #[.pointer (some ⟨b, off, none⟩)] 22)).alloc (.cells #[.int .i64 5, .int .i64 xa, .int .i64 xb] 49)).alloc (.cells #[.func (.func 58) #[] #[]] 100) = w0 at hW q0 q1 q2 q3 q4 ⊢
      have h3' := hW.cellSome h3 (by simp)
      have h4' := hW.cellSome h4 (by simp)
      have h6' := hW.cellSome h6 (by simp)
      clear hw0 h3 h4 h6
      have HW := Lib.hid hW
      have hT := there_any B b off o ⟨sa, ua, va, pa, na, ca, sc, uc, vc, pc, nc, cc, us⟩ ⟨5, xa, xb⟩ o.vars.length (w.heap.size + 1) (w.heap.size + 1 + 1) w.heap.size w0 (H.out.kept hW (by simp)) HS.out q2 q3 q4 q0
      have HT := Lib.hid hT
      clear hW hT
      go_wp2_with fail
      refine HT.out.mono ?_; rintro _ w1 ⟨rfl, hw⟩
      have HW1 := Lib.hid hw; clear hw
      go_wp2_with fail
      go_ret
      exact ⟨rfl, HW.out.then HW1.out⟩
    · rw [show (((6 : Nat) : Int)) = (6 : Int) from rfl, instOK_6]
      cases hi : inB xa o.vars.length
      all_goals
        have hin := fun w' => in_any xa o.vars.length w'
        rw [show (decide (0 ≤ xa) && decide (xa < (o.vars.length : Int))) = inB xa o.vars.length from rfl, hi] at hin
        have HI := Lib.hid hin; clear hin hi
        go_enter Tryz.func28, Tryz.ntmps28
        go_upto_region 4 with fail
        obtain ⟨hW, q0, q1, q2, q3, q4⟩ := inst_world w b off 6 xa xb
        unfold instW at hW q0 q1 q2 q3 q4
        generalize hw0 : ((w.alloc (.cells #[.pointer (some ⟨b, off, none⟩)] 22)).alloc (.cells #[.int .i64 6, .int .i64 xa, .int .i64 xb] 49)).alloc (.cells #[.func (.func 58) #[] #[]] 100) = w0 at hW q0 q1 q2 q3 q4 ⊢
        have h3' := hW.cellSome h3 (by simp)
        have h4' := hW.cellSome h4 (by simp)
        have h6' := hW.cellSome h6 (by simp)
        clear hw0 h3 h4 h6
        have HW := Lib.hid hW
        have z1 := Lib.hid (Zone.of (X := []) (w0 := w0.drew) q0 (by simp))
        have z2 := Lib.hid (Zone.of (X := []) (w0 := w0.drew) q1 (by simp))
        have z3 := Lib.hid (Zone.of (X := []) (w0 := w0.drew) q4 (by simp))
        have z4 := Lib.hid (Zone.of (X := []) (w0 := w0.drew) h3' (by simp))
        have L1 := Lib.hid (show w.heap.size + 1 < w0.drew.heap.size from lt_of_cell q1)
        clear hW
        go_wp2_with fail
        refine wp_region_C [] rfl (by kernel_rfl) ?_
        have hS : Chg [] w0.drew w0.drew := Chg.refl _ _
        repeat
          (with_reducible show wpX _ _ _ _ _ _ _ _
           first
             | refine wpX_nil ?_
             | refine wpX_skip rfl ?_
             | refine wpX_mv rfl rfl (by kernel_rfl) (fun _ _ => ?_)
             | refine wpX_ldC rfl rfl rfl (by first | exact z1.out | exact z2.out | exact z3.out | exact z4.out) (by assumption) (fun _ _ => ?_)
             | refine wpX_ef' rfl rfl rfl (fun _ _ => ?_)
           go_wp2_with fail)
        refine (HI.out _).mono ?_; rintro _ w1 ⟨rfl, hw⟩; have hS := Chg.then (by assumption) hw; have k1 := Chg.cells hS L1.out (by simp); clear hw
        go_wp2_with fail
        refine And.intro (by assumption : Chg _ _ _) ?_
        repeat
          (with_reducible show wpX _ _ _ _ _ _ _ _
           first
             | refine wpX_nil ?_
             | refine wpX_skip rfl ?_
             | refine wpX_mv rfl rfl (by kernel_rfl) (fun _ _ => ?_)
             | refine wpX_ldC rfl rfl rfl (by first | exact z1.out | exact z2.out | exact z3.out | exact z4.out) (by assumption) (fun _ _ => ?_)
             | refine wpX_ef' rfl rfl rfl (fun _ _ => ?_)
           go_wp2_with fail)
        go_ret
        first | rw [Bool.true_and] | rw [Bool.false_and]
        exact ⟨rfl, HW.out.drew.then hS⟩
    · rw [show (((7 : Nat) : Int)) = (7 : Int) from rfl, instOK_7]
      go_enter Tryz.func28, Tryz.ntmps28
      go_upto_region 4 with fail
      obtain ⟨hW, q0, q1, q2, q3, q4⟩ := inst_world w b off 7 xa xb
      unfold instW at hW q0 q1 q2 q3 q4
      generalize hw0 : ((w.alloc (.cells #[.pointer (some ⟨b, off, none⟩)] 22)).alloc (.cells #[.int .i64 7, .int .i64 xa, .int .i64 xb] 49)).alloc (.cells #[.func (.func 58) #[] #[]] 100) = w0 at hW q0 q1 q2 q3 q4 ⊢
      have h3' := hW.cellSome h3 (by simp)
      have h4' := hW.cellSome h4 (by simp)
      have h6' := hW.cellSome h6 (by simp)
      clear hw0 h3 h4 h6
      have HW := Lib.hid hW
      have hT := there_any B b off o ⟨sa, ua, va, pa, na, ca, sc, uc, vc, pc, nc, cc, us⟩ ⟨7, xa, xb⟩ o.vars.length (w.heap.size + 1) (w.heap.size + 1 + 1) w.heap.size w0 (H.out.kept hW (by simp)) HS.out q2 q3 q4 q0
      have HT := Lib.hid hT
      clear hW hT
      go_wp2_with fail
      refine HT.out.mono ?_; rintro _ w1 ⟨rfl, hw⟩
      have HW1 := Lib.hid hw; clear hw
      go_wp2_with fail
      go_ret
      exact ⟨rfl, HW.out.then HW1.out⟩
    · rw [show (((8 : Nat) : Int)) = (8 : Int) from rfl, instOK_8]
      cases hi : inB xa o.vars.length
      all_goals
        have hin := fun w' => in_any xa o.vars.length w'
        rw [show (decide (0 ≤ xa) && decide (xa < (o.vars.length : Int))) = inB xa o.vars.length from rfl, hi] at hin
        have HI := Lib.hid hin; clear hin hi
        go_enter Tryz.func28, Tryz.ntmps28
        go_upto_region 4 with fail
        obtain ⟨hW, q0, q1, q2, q3, q4⟩ := inst_world w b off 8 xa xb
        unfold instW at hW q0 q1 q2 q3 q4
        generalize hw0 : ((w.alloc (.cells #[.pointer (some ⟨b, off, none⟩)] 22)).alloc (.cells #[.int .i64 8, .int .i64 xa, .int .i64 xb] 49)).alloc (.cells #[.func (.func 58) #[] #[]] 100) = w0 at hW q0 q1 q2 q3 q4 ⊢
        have h3' := hW.cellSome h3 (by simp)
        have h4' := hW.cellSome h4 (by simp)
        have h6' := hW.cellSome h6 (by simp)
        clear hw0 h3 h4 h6
        have HW := Lib.hid hW
        have z1 := Lib.hid (Zone.of (X := []) (w0 := w0.drew) q0 (by simp))
        have z2 := Lib.hid (Zone.of (X := []) (w0 := w0.drew) q1 (by simp))
        have z3 := Lib.hid (Zone.of (X := []) (w0 := w0.drew) q4 (by simp))
        have z4 := Lib.hid (Zone.of (X := []) (w0 := w0.drew) h3' (by simp))
        have L1 := Lib.hid (show w.heap.size + 1 < w0.drew.heap.size from lt_of_cell q1)
        clear hW
        go_wp2_with fail
        refine wp_region_C [] rfl (by kernel_rfl) ?_
        have hS : Chg [] w0.drew w0.drew := Chg.refl _ _
        repeat
          (with_reducible show wpX _ _ _ _ _ _ _ _
           first
             | refine wpX_nil ?_
             | refine wpX_skip rfl ?_
             | refine wpX_mv rfl rfl (by kernel_rfl) (fun _ _ => ?_)
             | refine wpX_ldC rfl rfl rfl (by first | exact z1.out | exact z2.out | exact z3.out | exact z4.out) (by assumption) (fun _ _ => ?_)
             | refine wpX_ef' rfl rfl rfl (fun _ _ => ?_)
           go_wp2_with fail)
        refine (HI.out _).mono ?_; rintro _ w1 ⟨rfl, hw⟩; have hS := Chg.then (by assumption) hw; have k1 := Chg.cells hS L1.out (by simp); clear hw
        go_wp2_with fail
        refine And.intro (by assumption : Chg _ _ _) ?_
        repeat
          (with_reducible show wpX _ _ _ _ _ _ _ _
           first
             | refine wpX_nil ?_
             | refine wpX_skip rfl ?_
             | refine wpX_mv rfl rfl (by kernel_rfl) (fun _ _ => ?_)
             | refine wpX_ldC rfl rfl rfl (by first | exact z1.out | exact z2.out | exact z3.out | exact z4.out) (by assumption) (fun _ _ => ?_)
             | refine wpX_ef' rfl rfl rfl (fun _ _ => ?_)
           go_wp2_with fail)
        go_ret
        first | rw [Bool.true_and] | rw [Bool.false_and]
        exact ⟨rfl, HW.out.drew.then hS⟩
    · rw [show (((9 : Nat) : Int)) = (9 : Int) from rfl, instOK_9]
      cases hi : inB xa 11
      all_goals
        have hin := fun w' => in_any xa 11 w'
        rw [show (decide (0 ≤ xa) && decide (xa < 11)) = inB xa 11 from rfl, hi] at hin
        have HI := Lib.hid hin; clear hin hi
        go_enter Tryz.func28, Tryz.ntmps28
        go_upto_region 4 with fail
        obtain ⟨hW, q0, q1, q2, q3, q4⟩ := inst_world w b off 9 xa xb
        unfold instW at hW q0 q1 q2 q3 q4
        generalize hw0 : ((w.alloc (.cells #[.pointer (some ⟨b, off, none⟩)] 22)).alloc (.cells #[.int .i64 9, .int .i64 xa, .int .i64 xb] 49)).alloc (.cells #[.func (.func 58) #[] #[]] 100) = w0 at hW q0 q1 q2 q3 q4 ⊢
        have h3' := hW.cellSome h3 (by simp)
        have h4' := hW.cellSome h4 (by simp)
        have h6' := hW.cellSome h6 (by simp)
        clear hw0 h3 h4 h6
        have HW := Lib.hid hW
        have L1 := Lib.hid (show w.heap.size + 1 < w0.heap.size from lt_of_cell q1)
        clear hW h3' h4' h6'
        go_wp2_with fail
        refine (HI.out _).mono ?_; rintro _ w1 ⟨rfl, hw⟩
        have k1 := Chg.cells hw L1.out (by simp)
        have HW1 := Lib.hid hw; clear hw
        go_wp2_with fail
        go_ret
        first | rw [Bool.true_and] | rw [Bool.false_and]
        exact ⟨rfl, HW.out.then HW1.out⟩
    · rw [show (((10 : Nat) : Int)) = (10 : Int) from rfl, instOK_10]
      cases ha : (xa == 0)
      all_goals
        have HA := Lib.hid ha
        go_enter Tryz.func28, Tryz.ntmps28
        go_wp2_with fail
        go_ret
        first | rw [Bool.true_and] | rw [Bool.false_and]
        exact ⟨rfl, (((Chg.refl [] w).alloc _).alloc _).alloc _⟩
    · rw [show (((11 : Nat) : Int)) = (11 : Int) from rfl, instOK_11]
      cases ha : (xa == 0)
      all_goals
        have HA := Lib.hid ha
        go_enter Tryz.func28, Tryz.ntmps28
        go_wp2_with fail
        go_ret
        first | rw [Bool.true_and] | rw [Bool.false_and]
        exact ⟨rfl, (((Chg.refl [] w).alloc _).alloc _).alloc _⟩
    · rw [show (((12 : Nat) : Int)) = (12 : Int) from rfl, instOK_12]
      cases hi : inB xa o.code.length
      all_goals
        have hin := fun w' => in_any xa o.code.length w'
        rw [show (decide (0 ≤ xa) && decide (xa < (o.code.length : Int))) = inB xa o.code.length from rfl, hi] at hin
        have HI := Lib.hid hin; clear hin hi
        go_enter Tryz.func28, Tryz.ntmps28
        go_upto_region 4 with fail
        obtain ⟨hW, q0, q1, q2, q3, q4⟩ := inst_world w b off 12 xa xb
        unfold instW at hW q0 q1 q2 q3 q4
        generalize hw0 : ((w.alloc (.cells #[.pointer (some ⟨b, off, none⟩)] 22)).alloc (.cells #[.int .i64 12, .int .i64 xa, .int .i64 xb] 49)).alloc (.cells #[.func (.func 58) #[] #[]] 100) = w0 at hW q0 q1 q2 q3 q4 ⊢
        have h3' := hW.cellSome h3 (by simp)
        have h4' := hW.cellSome h4 (by simp)
        have h6' := hW.cellSome h6 (by simp)
        clear hw0 h3 h4 h6
        have HW := Lib.hid hW
        have z1 := Lib.hid (Zone.of (X := []) (w0 := w0.drew) q0 (by simp))
        have z2 := Lib.hid (Zone.of (X := []) (w0 := w0.drew) q1 (by simp))
        have z3 := Lib.hid (Zone.of (X := []) (w0 := w0.drew) q4 (by simp))
        have z4 := Lib.hid (Zone.of (X := []) (w0 := w0.drew) h6' (by simp))
        have L1 := Lib.hid (show w.heap.size + 1 < w0.drew.heap.size from lt_of_cell q1)
        clear hW
        go_wp2_with fail
        refine wp_region_C [] rfl (by kernel_rfl) ?_
        have hS : Chg [] w0.drew w0.drew := Chg.refl _ _
        repeat
          (with_reducible show wpX _ _ _ _ _ _ _ _
           first
             | refine wpX_nil ?_
             | refine wpX_skip rfl ?_
             | refine wpX_mv rfl rfl (by kernel_rfl) (fun _ _ => ?_)
             | refine wpX_ldC rfl rfl rfl (by first | exact z1.out | exact z2.out | exact z3.out | exact z4.out) (by assumption) (fun _ _ => ?_)
             | refine wpX_ef' rfl rfl rfl (fun _ _ => ?_)
           go_wp2_with fail)
        refine (HI.out _).mono ?_; rintro _ w1 ⟨rfl, hw⟩; have hS := Chg.then (by assumption) hw; have k1 := Chg.cells hS L1.out (by simp); clear hw
        go_wp2_with fail
        refine And.intro (by assumption : Chg _ _ _) ?_
        repeat
          (with_reducible show wpX _ _ _ _ _ _ _ _
           first
             | refine wpX_nil ?_
             | refine wpX_skip rfl ?_
             | refine wpX_mv rfl rfl (by kernel_rfl) (fun _ _ => ?_)
             | refine wpX_ldC rfl rfl rfl (by first | exact z1.out | exact z2.out | exact z3.out | exact z4.out) (by assumption) (fun _ _ => ?_)
             | refine wpX_ef' rfl rfl rfl (fun _ _ => ?_)
           go_wp2_with fail)
        go_ret
        first | rw [Bool.true_and] | rw [Bool.false_and]
        exact ⟨rfl, HW.out.drew.then hS⟩
    · rw [show (((13 : Nat) : Int)) = (13 : Int) from rfl, instOK_13]
      cases hi : inB xa o.code.length
      all_goals
        have hin := fun w' => in_any xa o.code.length w'
        rw [show (decide (0 ≤ xa) && decide (xa < (o.code.length : Int))) = inB xa o.code.length from rfl, hi] at hin
        have HI := Lib.hid hin; clear hin hi
        go_enter Tryz.func28, Tryz.ntmps28
        go_upto_region 4 with fail
        obtain ⟨hW, q0, q1, q2, q3, q4⟩ := inst_world w b off 13 xa xb
        unfold instW at hW q0 q1 q2 q3 q4
        generalize hw0 : ((w.alloc (.cells #[.pointer (some ⟨b, off, none⟩)] 22)).alloc (.cells #[.int .i64 13, .int .i64 xa, .int .i64 xb] 49)).alloc (.cells #[.func (.func 58) #[] #[]] 100) = w0 at hW q0 q1 q2 q3 q4 ⊢
        have h3' := hW.cellSome h3 (by simp)
        have h4' := hW.cellSome h4 (by simp)
        have h6' := hW.cellSome h6 (by simp)
        clear hw0 h3 h4 h6
        have HW := Lib.hid hW
        have z1 := Lib.hid (Zone.of (X := []) (w0 := w0.drew) q0 (by simp))
        have z2 := Lib.hid (Zone.of (X := []) (w0 := w0.drew) q1 (by simp))
        have z3 := Lib.hid (Zone.of (X := []) (w0 := w0.drew) q4 (by simp))
        have z4 := Lib.hid (Zone.of (X := []) (w0 := w0.drew) h6' (by simp))
        have L1 := Lib.hid (show w.heap.size + 1 < w0.drew.heap.size from lt_of_cell q1)
        clear hW
        go_wp2_with fail
        refine wp_region_C [] rfl (by kernel_rfl) ?_
        have hS : Chg [] w0.drew w0.drew := Chg.refl _ _
        repeat
          (with_reducible show wpX _ _ _ _ _ _ _ _
           first
             | refine wpX_nil ?_
             | refine wpX_skip rfl ?_
             | refine wpX_mv rfl rfl (by kernel_rfl) (fun _ _ => ?_)
             | refine wpX_ldC rfl rfl rfl (by first | exact z1.out | exact z2.out | exact z3.out | exact z4.out) (by assumption) (fun _ _ => ?_)
             | refine wpX_ef' rfl rfl rfl (fun _ _ => ?_)
           go_wp2_with fail)
        refine (HI.out _).mono ?_; rintro _ w1 ⟨rfl, hw⟩; have hS := Chg.then (by assumption) hw; have k1 := Chg.cells hS L1.out (by simp); clear hw
        go_wp2_with fail
        refine And.intro (by assumption : Chg _ _ _) ?_
        repeat
          (with_reducible show wpX _ _ _ _ _ _ _ _
           first
             | refine wpX_nil ?_
             | refine wpX_skip rfl ?_
             | refine wpX_mv rfl rfl (by kernel_rfl) (fun _ _ => ?_)
             | refine wpX_ldC rfl rfl rfl (by first | exact z1.out | exact z2.out | exact z3.out | exact z4.out) (by assumption) (fun _ _ => ?_)
             | refine wpX_ef' rfl rfl rfl (fun _ _ => ?_)
           go_wp2_with fail)
        go_ret
        first | rw [Bool.true_and] | rw [Bool.false_and]
        exact ⟨rfl, HW.out.drew.then hS⟩
    · rw [show (((14 : Nat) : Int)) = (14 : Int) from rfl, instOK_14]
      go_enter Tryz.func28, Tryz.ntmps28
      go_upto_region 4 with fail
      obtain ⟨hW, q0, q1, q2, q3, q4⟩ := inst_world w b off 14 xa xb
      unfold instW at hW q0 q1 q2 q3 q4
      generalize hw0 : ((w.alloc (.cells #[.pointer (some ⟨b, off, none⟩)] 22)).alloc (.cells #[.int .i64 14, .int .i64 xa, .int .i64 xb] 49)).alloc (.cells #[.func (.func 58) #[] #[]] 100) = w0 at hW q0 q1 q2 q3 q4 ⊢
      have h3' := hW.cellSome h3 (by simp)
      have h4' := hW.cellSome h4 (by simp)
      have h6' := hW.cellSome h6 (by simp)
      clear hw0 h3 h4 h6
      have HW := Lib.hid hW
      have hT := there_any B b off o ⟨sa, ua, va, pa, na, ca, sc, uc, vc, pc, nc, cc, us⟩ ⟨14, xa, xb⟩ o.procs.length (w.heap.size + 1) (w.heap.size + 1 + 1) w.heap.size w0 (H.out.kept hW (by simp)) HS.out q2 q3 q4 q0
      have HT := Lib.hid hT
      clear hW hT
      go_wp2_with fail
      refine HT.out.mono ?_; rintro _ w1 ⟨rfl, hw⟩
      have HW1 := Lib.hid hw; clear hw
      go_wp2_with fail
      go_ret
      exact ⟨rfl, HW.out.then HW1.out⟩
    · rw [show (((15 : Nat) : Int)) = (15 : Int) from rfl, instOK_15]
      cases ha : (xa == 0)
      all_goals
        have HA := Lib.hid ha
        go_enter Tryz.func28, Tryz.ntmps28
        go_wp2_with fail
        go_ret
        first | rw [Bool.true_and] | rw [Bool.false_and]
        exact ⟨rfl, (((Chg.refl [] w).alloc _).alloc _).alloc _⟩
    · rw [show (((16 : Nat) : Int)) = (16 : Int) from rfl, instOK_16]
      cases ha : (xa == 0)
      all_goals
        have HA := Lib.hid ha
        go_enter Tryz.func28, Tryz.ntmps28
        go_wp2_with fail
        go_ret
        first | rw [Bool.true_and] | rw [Bool.false_and]
        exact ⟨rfl, (((Chg.refl [] w).alloc _).alloc _).alloc _⟩
    · rw [show (((17 : Nat) : Int)) = (17 : Int) from rfl, instOK_17]
      cases ha : (xa == 0)
      all_goals
        have HA := Lib.hid ha
        go_enter Tryz.func28, Tryz.ntmps28
        go_wp2_with fail
        go_ret
        first | rw [Bool.true_and] | rw [Bool.false_and]
        exact ⟨rfl, (((Chg.refl [] w).alloc _).alloc _).alloc _⟩
  · rw [instOK_none o op xa xb (fun n h1 h2 he => hop ⟨n, h1, h2, he⟩)]
    have t1 : (op == 1) = false := by rw [beq_eq_false_iff_ne]; exact fun he => hop ⟨1, by omega, by omega, he⟩
    have t2 : (op == 2) = false := by rw [beq_eq_false_iff_ne]; exact fun he => hop ⟨2, by omega, by omega, he⟩
    have t3 : (op == 3) = false := by rw [beq_eq_false_iff_ne]; exact fun he => hop ⟨3, by omega, by omega, he⟩
    have t4 : (op == 4) = false := by rw [beq_eq_false_iff_ne]; exact fun he => hop ⟨4, by omega, by omega, he⟩
    have t5 : (op == 5) = false := by rw [beq_eq_false_iff_ne]; exact fun he => hop ⟨5, by omega, by omega, he⟩
    have t6 : (op == 6) = false := by rw [beq_eq_false_iff_ne]; exact fun he => hop ⟨6, by omega, by omega, he⟩
    have t7 : (op == 7) = false := by rw [beq_eq_false_iff_ne]; exact fun he => hop ⟨7, by omega, by omega, he⟩
    have t8 : (op == 8) = false := by rw [beq_eq_false_iff_ne]; exact fun he => hop ⟨8, by omega, by omega, he⟩
    have t9 : (op == 9) = false := by rw [beq_eq_false_iff_ne]; exact fun he => hop ⟨9, by omega, by omega, he⟩
    have t10 : (op == 10) = false := by rw [beq_eq_false_iff_ne]; exact fun he => hop ⟨10, by omega, by omega, he⟩
    have t11 : (op == 11) = false := by rw [beq_eq_false_iff_ne]; exact fun he => hop ⟨11, by omega, by omega, he⟩
    have t12 : (op == 12) = false := by rw [beq_eq_false_iff_ne]; exact fun he => hop ⟨12, by omega, by omega, he⟩
    have t13 : (op == 13) = false := by rw [beq_eq_false_iff_ne]; exact fun he => hop ⟨13, by omega, by omega, he⟩
    have t14 : (op == 14) = false := by rw [beq_eq_false_iff_ne]; exact fun he => hop ⟨14, by omega, by omega, he⟩
    have t15 : (op == 15) = false := by rw [beq_eq_false_iff_ne]; exact fun he => hop ⟨15, by omega, by omega, he⟩
    have t16 : (op == 16) = false := by rw [beq_eq_false_iff_ne]; exact fun he => hop ⟨16, by omega, by omega, he⟩
    have t17 : (op == 17) = false := by rw [beq_eq_false_iff_ne]; exact fun he => hop ⟨17, by omega, by omega, he⟩
    clear hop
    go_enter Tryz.func28, Tryz.ntmps28
    go_wp2_with fail
    go_ret
    exact ⟨rfl, (((Chg.refl [] w).alloc _).alloc _).alloc _⟩
end Go.Proofs.YtjgfclhempjinaaGreatDoor
