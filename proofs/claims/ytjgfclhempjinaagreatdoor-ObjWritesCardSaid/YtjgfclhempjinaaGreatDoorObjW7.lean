/- obj.inst. -/
import Derived.Test.YtjgfclhempjinaaGreatDoorObjW5
namespace Go.Proofs.YtjgfclhempjinaaGreatDoor
open Go Go.RowKit Go.Mq Go.Mq.Obj

set_option maxRecDepth 100000 in
theorem in_any (k n : Int) (w : World) : Calls Tryz.prog 58 #[.int .i64 k, .int .i64 n] w (Ans w (.bool (decide (0 ≤ k) && decide (k < n)))) := by
  by_cases h1 : 0 ≤ k
  · cases h2 : decide (k < n)
    all_goals
      have H1 := Lib.hid (show decide ((0 : Int) ≤ k) = true by simpa using h1)
      go_enter Tryz.func58, Tryz.ntmps58
      go_wp2
      go_ret
      rw [H1.out]
      exact ⟨rfl, Chg.refl _ _⟩
  · have H1 := Lib.hid (show decide ((0 : Int) ≤ k) = false by simpa using h1)
    go_enter Tryz.func58, Tryz.ntmps58
    go_wp2
    go_ret
    rw [H1.out]
    exact ⟨rfl, Chg.refl _ _⟩

theorem there_minus (o : ObjD) (x : InstD) (own : Nat) (h : (x.b == -1) = true) : thereOK o x own = inB x.a own := by
  unfold thereOK; rw [if_pos (by simpa using h)]
theorem there_no (o : ObjD) (x : InstD) (own : Nat) (h : (x.b == -1) = false) (h2 : inB x.b o.uses.length = false) : thereOK o x own = false := by
  unfold thereOK; rw [if_neg (by simpa using h), h2, Bool.false_and]
theorem there_yes (o : ObjD) (x : InstD) (own k : Nat) (u : UseD) (h : (x.b == -1) = false) (hk : x.b = k) (hu : o.uses[k]? = some u) : thereOK o x own = inB x.a u.names.length := by
  have hk2 := (List.getElem?_eq_some_iff.1 hu).1
  unfold thereOK; rw [if_neg (by simpa using h), hk, show inB (k : Int) o.uses.length = true by simp [inB]; omega]
  simp [hu]

set_option maxHeartbeats 4000000 in
set_option maxRecDepth 100000 in
theorem there_any (B b off : Nat) (o : ObjD) (M : ObjM) (x : InstD) (own bx bf bo : Nat) (w : World) (h : ObjAt w B b off o M) (hs : o.small)
    (hx1 : w.cell? ⟨bx, 1, none⟩ = some (.int .i64 x.a)) (hx2 : w.cell? ⟨bx, 2, none⟩ = some (.int .i64 x.b))
    (hf : w.cell? ⟨bf, 0, none⟩ = some (.func (.func 58) #[] #[])) (ho : w.cell? ⟨bo, 0, none⟩ = some (.pointer (some ⟨b, off, none⟩))) :
    Calls Tryz.prog 59 #[.int .i64 own, .pointer (some ⟨bx, 0, none⟩), .pointer (some ⟨bf, 0, none⟩), .pointer (some ⟨bo, 0, none⟩)] w (Ans w (.bool (thereOK o x own))) := by
  have hzu : o.uses.length ≤ 1099511627776 := hs.uses.1
  cases hm : (x.b == -1)
  · have hin1 := fun w' => in_any x.b o.uses.length w'
    cases hi : inB x.b o.uses.length
    · have hi' : (decide (0 ≤ x.b) && decide (x.b < (o.uses.length : Int))) = false := hi
      simp only [hi'] at hin1
      have HI := Lib.hid hin1
      have HN := Lib.hid (there_no o x own hm hi)
      have h2 := h.c2
      have z1 := Lib.hid (Zone.of (X := []) (w0 := w.drew) hx2 (by simp))
      have z2 := Lib.hid (Zone.of (X := []) (w0 := w.drew) hf (by simp))
      have z3 := Lib.hid (Zone.of (X := []) (w0 := w.drew) ho (by simp))
      have z4 := Lib.hid (Zone.of (X := []) (w0 := w.drew) h2 (by simp))
      clear hin1 hi hi' h hs
      go_enter Tryz.func59, Tryz.ntmps59
      go_wp2_with fail
      refine wp_region_C [] rfl (by kernel_rfl) ?_
      have hS : Chg [] w.drew w.drew := Chg.refl _ _
      repeat
        (with_reducible show wpX _ _ _ _ _ _ _ _
         first
           | refine wpX_nil ?_
           | refine wpX_skip rfl ?_
           | refine wpX_mv rfl rfl (by kernel_rfl) (fun _ _ => ?_)
           | refine wpX_ldC rfl rfl rfl (by first | exact z1.out | exact z2.out | exact z3.out | exact z4.out) (by assumption) (fun _ _ => ?_)
           | refine wpX_ef' rfl rfl rfl (fun _ _ => ?_)
         go_wp2_with fail)
      refine (HI.out _).mono ?_; rintro _ _ ⟨rfl, hw⟩; have hS := Chg.then (by assumption) hw; clear hw
      go_wp2_with fail
      refine And.intro (by assumption : Chg _ _ _) ?_
      repeat
        (with_reducible show wpX _ _ _ _ _ _ _ _
         first
           | refine wpX_nil ?_
           | refine wpX_skip rfl ?_
           | refine wpX_mv rfl rfl (by kernel_rfl) (fun _ _ => ?_)
           | refine wpX_ldC rfl rfl rfl (by first | exact z1.out | exact z2.out | exact z3.out | exact z4.out) (by assumption) (fun _ _ => ?_)
           | refine wpX_ef' rfl rfl rfl (fun _ _ => ?_)
         go_wp2_with fail)
      go_ret
      rw [HN.out]
      exact ⟨rfl, (Chg.drew (Chg.refl [] w)).then hS⟩
    · have hi' : (decide (0 ≤ x.b) && decide (x.b < (o.uses.length : Int))) = true := hi
      simp only [hi'] at hin1
      have hj : 0 ≤ x.b ∧ x.b < (o.uses.length : Int) := by simpa using hi'
      obtain ⟨k, hk⟩ : ∃ k : Nat, x.b = k := ⟨x.b.toNat, by omega⟩
      have hus : M.us.map (·.u) = o.uses := h.us
      have hul : M.us.length = o.uses.length := by rw [← hus, List.length_map]
      have hkl : k < M.us.length := by omega
      obtain ⟨m, hm2⟩ : ∃ m, M.us[k]? = some m := ⟨M.us[k], by simp [hkl]⟩
      have hxu : o.uses[k]? = some m.u := by rw [← hus, List.getElem?_map, hm2]; rfl
      have hin2 := fun w' => in_any x.a m.u.names.length w'
      have HN := Lib.hid (there_yes o x own k m.u hm hk hxu)
      have h2 := h.c2
      have hat : At w M.ua (M.us.flatMap UseM.cells) := h.u
      obtain ⟨bb, boff, hua, hcell⟩ := hat (by rw [flat_len _ 3 (fun _ => rfl)]; omega)
      rw [hua] at h2
      have hc2 : w.cell? ⟨bb, boff + k * 3 + 2, none⟩ = some (.slice m.at_ m.u.names.length m.cap) := by
        have h1 := flat_get UseM.cells 3 (fun _ => rfl) M.us k 2 m hm2 (by omega)
        have := hcell _ _ h1
        rw [← Nat.add_assoc] at this; exact this
      have hkr : k < o.uses.length := by omega
      have z1 := Lib.hid (Zone.of (X := []) (w0 := w.drew) hx2 (by simp))
      have z2 := Lib.hid (Zone.of (X := []) (w0 := w.drew) hf (by simp))
      have z3 := Lib.hid (Zone.of (X := []) (w0 := w.drew) ho (by simp))
      have z4 := Lib.hid (Zone.of (X := []) (w0 := w.drew) h2 (by simp))
      have z5 := Lib.hid (Zone.of (X := []) (w0 := w.drew) hc2 (by simp))
      have l1 := Lib.hid (show bx < w.drew.heap.size from lt_of_cell hx2)
      have l2 := Lib.hid (show bf < w.drew.heap.size from lt_of_cell hf)
      have l3 := Lib.hid (show bo < w.drew.heap.size from lt_of_cell ho)
      have l4 := Lib.hid (show b < w.drew.heap.size from lt_of_cell h2)
      have l5 := Lib.hid (show bb < w.drew.heap.size from lt_of_cell hc2)
      rw [hk] at hx2 hin1 hm
      have HI := Lib.hid hin1; have HI2 := Lib.hid hin2
      clear hin1 hin2 hi hi' h hs hj hus hul hkl hm2 hxu hat hua hcell hk
      go_enter Tryz.func59, Tryz.ntmps59
      go_wp2_with fail
      refine wp_region_C [] rfl (by kernel_rfl) ?_
      have hS : Chg [] w.drew w.drew := Chg.refl _ _
      repeat
        (with_reducible show wpX _ _ _ _ _ _ _ _
         first
           | refine wpX_nil ?_
           | refine wpX_skip rfl ?_
           | refine wpX_mv rfl rfl (by kernel_rfl) (fun _ _ => ?_)
           | refine wpX_ldC rfl rfl rfl (by first | exact z1.out | exact z2.out | exact z3.out | exact z4.out | exact z5.out) (by assumption) (fun _ _ => ?_)
           | refine wpX_ef' rfl rfl rfl (fun _ _ => ?_)
         go_wp2_with fail)
      refine (HI.out _).mono ?_; rintro _ _ ⟨rfl, hw⟩; have hS := Chg.then (by assumption) hw; clear hw
      have k1 := Chg.cells hS l1.out (by simp); have k2 := Chg.cells hS l2.out (by simp); have k3 := Chg.cells hS l3.out (by simp); have k4 := Chg.cells hS l4.out (by simp); have k5 := Chg.cells hS l5.out (by simp)
      go_wp2_with fail
      refine And.intro (by assumption : Chg _ _ _) ?_
      repeat
        (with_reducible show wpX _ _ _ _ _ _ _ _
         first
           | refine wpX_nil ?_
           | refine wpX_skip rfl ?_
           | refine wpX_mv rfl rfl (by kernel_rfl) (fun _ _ => ?_)
           | refine wpX_ldC rfl rfl rfl (by first | exact z1.out | exact z2.out | exact z3.out | exact z4.out | exact z5.out) (by assumption) (fun _ _ => ?_)
           | refine wpX_ef' rfl rfl rfl (fun _ _ => ?_)
         go_wp2_with fail)
      refine (HI2.out _).mono ?_; rintro _ _ ⟨rfl, hw⟩; have hS := Chg.then (by assumption) hw; clear hw
      go_wp2_with fail
      refine And.intro (by assumption : Chg _ _ _) ?_
      repeat
        (with_reducible show wpX _ _ _ _ _ _ _ _
         first
           | refine wpX_nil ?_
           | refine wpX_skip rfl ?_
           | refine wpX_mv rfl rfl (by kernel_rfl) (fun _ _ => ?_)
           | refine wpX_ldC rfl rfl rfl (by first | exact z1.out | exact z2.out | exact z3.out | exact z4.out | exact z5.out) (by assumption) (fun _ _ => ?_)
           | refine wpX_ef' rfl rfl rfl (fun _ _ => ?_)
         go_wp2_with fail)
      go_ret
      rw [HN.out]
      exact ⟨rfl, (Chg.drew (Chg.refl [] w)).then hS⟩
  · have HI := Lib.hid (fun w' => in_any x.a own w')
    have HN := Lib.hid (there_minus o x own hm)
    clear h hs
    go_enter Tryz.func59, Tryz.ntmps59
    go_wp2_with fail
    refine (HI.out _).mono ?_; rintro _ w1 ⟨rfl, hw⟩
    have HW := Lib.hid hw; clear hw
    go_wp2_with fail
    go_ret
    rw [HN.out]
    exact ⟨rfl, HW.out⟩
end Go.Proofs.YtjgfclhempjinaaGreatDoor
