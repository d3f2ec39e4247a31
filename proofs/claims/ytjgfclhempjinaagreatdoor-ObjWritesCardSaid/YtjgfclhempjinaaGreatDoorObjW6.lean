/- obj.parts (laid by gen_w6.py). -/
import Derived.Test.YtjgfclhempjinaaGreatDoorObjW5
namespace Go.Proofs.YtjgfclhempjinaaGreatDoor
open Go Go.RowKit Go.Mq Go.Mq.Obj

theorem parts_head {o : ObjD} (h : headOK o = false) : partsOK o = false := by simp [partsOK, h]
theorem parts_no {o : ObjD} (h : o.syms.all symOK = false ∨ o.uses.all (useOK o.name) = false ∨ o.vars.all globOK = false ∨ o.procs.all (entOK o.code.length) = false) : partsOK o = false := by
  rcases h with h | h | h | h <;> simp only [partsOK, h, Bool.and_false, Bool.false_and]
theorem and_no {a b : Bool} (h : (a && b) = false) : a = false ∨ (a = true ∧ b = false) := by cases a <;> simp_all
theorem all_no {α : Type} {p : α → Bool} {l : List α} {k : Nat} {x : α} (h : l[k]? = some x) (hp : p x = false) : l.all p = false :=
  List.all_eq_false.2 ⟨x, List.mem_of_getElem? h, by simp [hp]⟩
theorem all_next {α : Type} {p : α → Bool} {l : List α} {k : Nat} {x : α} (h : l[k]? = some x) (hp : p x = true) (ha : (l.take k).all p = true) : (l.take (k + 1)).all p = true := by
  rw [List.take_add_one, h, List.all_append]; simp [hp, ha]

theorem head_cases (o : ObjD) : ((!nameOK o.name) = true ∧ headOK o = false) ∨
    ((!nameOK o.name) = false ∧ decide ((6 : Int) < (o.uses.length : Int)) = true ∧ headOK o = false) ∨
    ((!nameOK o.name) = false ∧ decide ((6 : Int) < (o.uses.length : Int)) = false ∧ decide ((10 : Int) < (o.vars.length : Int)) = true ∧ headOK o = false) ∨
    ((!nameOK o.name) = false ∧ decide ((6 : Int) < (o.uses.length : Int)) = false ∧ decide ((10 : Int) < (o.vars.length : Int)) = false ∧ decide ((10 : Int) < (o.procs.length : Int)) = true ∧ headOK o = false) ∨
    ((!nameOK o.name) = false ∧ decide ((6 : Int) < (o.uses.length : Int)) = false ∧ decide ((10 : Int) < (o.vars.length : Int)) = false ∧ decide ((10 : Int) < (o.procs.length : Int)) = false ∧ ((o.names.length : Int) != (o.procs.length : Int)) = true ∧ headOK o = false) ∨
    ((!nameOK o.name) = false ∧ decide ((6 : Int) < (o.uses.length : Int)) = false ∧ decide ((10 : Int) < (o.vars.length : Int)) = false ∧ decide ((10 : Int) < (o.procs.length : Int)) = false ∧ ((o.names.length : Int) != (o.procs.length : Int)) = false ∧ (o.names.any (fun x => !nameOK x)) = true ∧ headOK o = false) ∨
    ((!nameOK o.name) = false ∧ decide ((6 : Int) < (o.uses.length : Int)) = false ∧ decide ((10 : Int) < (o.vars.length : Int)) = false ∧ decide ((10 : Int) < (o.procs.length : Int)) = false ∧ ((o.names.length : Int) != (o.procs.length : Int)) = false ∧ (o.names.any (fun x => !nameOK x)) = false ∧ decide ((20 : Int) < (o.syms.length : Int)) = true ∧ headOK o = false) ∨
    ((!nameOK o.name) = false ∧ decide ((6 : Int) < (o.uses.length : Int)) = false ∧ decide ((10 : Int) < (o.vars.length : Int)) = false ∧ decide ((10 : Int) < (o.procs.length : Int)) = false ∧ ((o.names.length : Int) != (o.procs.length : Int)) = false ∧ (o.names.any (fun x => !nameOK x)) = false ∧ decide ((20 : Int) < (o.syms.length : Int)) = false ∧ headOK o = true) := by
  have e : headOK o = (!(!nameOK o.name) && !decide ((6 : Int) < (o.uses.length : Int)) && !decide ((10 : Int) < (o.vars.length : Int)) && !decide ((10 : Int) < (o.procs.length : Int)) && !((o.names.length : Int) != (o.procs.length : Int)) && !(o.names.any (fun x => !nameOK x)) && !decide ((20 : Int) < (o.syms.length : Int))) := by
    have e1 : ∀ (a b : Nat), decide (a ≤ b) = !decide ((b : Int) < (a : Int)) := fun a b => by rw [Bool.eq_iff_iff]; simp
    have e2 : ∀ (a b : Nat), decide (a = b) = !((a : Int) != (b : Int)) := fun a b => by rw [Bool.eq_iff_iff]; simp; omega
    have e3 : ∀ l : List (List UInt8), l.all nameOK = !(l.any (fun x => !nameOK x)) := fun l => by rw [List.not_any_eq_all_not]; simp
    have e4 : ∀ a b : Int, decide (a ≤ b) = !decide (b < a) := fun a b => by rw [Bool.eq_iff_iff]; simp
    have e5 : ∀ a b : Int, decide (a = b) = !(a != b) := fun a b => by rw [Bool.eq_iff_iff]; simp
    simp only [headOK, e1, e2, e3, Bool.not_not]; rfl
  rw [e]
  generalize (!nameOK o.name) = b0
  generalize decide ((6 : Int) < (o.uses.length : Int)) = b1
  generalize decide ((10 : Int) < (o.vars.length : Int)) = b2
  generalize decide ((10 : Int) < (o.procs.length : Int)) = b3
  generalize ((o.names.length : Int) != (o.procs.length : Int)) = b4
  generalize (o.names.any (fun x => !nameOK x)) = b5
  generalize decide ((20 : Int) < (o.syms.length : Int)) = b6
  clear e; revert b0 b1 b2 b3 b4 b5 b6; decide

theorem sym_cases (x : SymD) : ((!nameOK x.name) = true ∧ symOK x = false) ∨
    ((!nameOK x.name) = false ∧ decide (x.args < (-1 : Int)) = true ∧ symOK x = false) ∨
    ((!nameOK x.name) = false ∧ decide (x.args < (-1 : Int)) = false ∧ decide ((10 : Int) < x.args) = true ∧ symOK x = false) ∨
    ((!nameOK x.name) = false ∧ decide (x.args < (-1 : Int)) = false ∧ decide ((10 : Int) < x.args) = false ∧ decide (x.len < (0 : Int)) = true ∧ symOK x = false) ∨
    ((!nameOK x.name) = false ∧ decide (x.args < (-1 : Int)) = false ∧ decide ((10 : Int) < x.args) = false ∧ decide (x.len < (0 : Int)) = false ∧ decide ((30 : Int) < x.len) = true ∧ symOK x = false) ∨
    ((!nameOK x.name) = false ∧ decide (x.args < (-1 : Int)) = false ∧ decide ((10 : Int) < x.args) = false ∧ decide (x.len < (0 : Int)) = false ∧ decide ((30 : Int) < x.len) = false ∧ (decide ((0 : Int) ≤ x.args) && decide ((0 : Int) < x.len)) = true ∧ symOK x = false) ∨
    ((!nameOK x.name) = false ∧ decide (x.args < (-1 : Int)) = false ∧ decide ((10 : Int) < x.args) = false ∧ decide (x.len < (0 : Int)) = false ∧ decide ((30 : Int) < x.len) = false ∧ (decide ((0 : Int) ≤ x.args) && decide ((0 : Int) < x.len)) = false ∧ symOK x = true) := by
  have e : symOK x = (!(!nameOK x.name) && !decide (x.args < (-1 : Int)) && !decide ((10 : Int) < x.args) && !decide (x.len < (0 : Int)) && !decide ((30 : Int) < x.len) && !(decide ((0 : Int) ≤ x.args) && decide ((0 : Int) < x.len))) := by
    have e1 : ∀ (a b : Nat), decide (a ≤ b) = !decide ((b : Int) < (a : Int)) := fun a b => by rw [Bool.eq_iff_iff]; simp
    have e2 : ∀ (a b : Nat), decide (a = b) = !((a : Int) != (b : Int)) := fun a b => by rw [Bool.eq_iff_iff]; simp; omega
    have e3 : ∀ l : List (List UInt8), l.all nameOK = !(l.any (fun x => !nameOK x)) := fun l => by rw [List.not_any_eq_all_not]; simp
    have e4 : ∀ a b : Int, decide (a ≤ b) = !decide (b < a) := fun a b => by rw [Bool.eq_iff_iff]; simp
    have e5 : ∀ a b : Int, decide (a = b) = !(a != b) := fun a b => by rw [Bool.eq_iff_iff]; simp
    simp only [symOK, e4, Bool.not_not]
  rw [e]
  generalize (!nameOK x.name) = b0
  generalize decide (x.args < (-1 : Int)) = b1
  generalize decide ((10 : Int) < x.args) = b2
  generalize decide (x.len < (0 : Int)) = b3
  generalize decide ((30 : Int) < x.len) = b4
  generalize (decide ((0 : Int) ≤ x.args) && decide ((0 : Int) < x.len)) = b5
  clear e; revert b0 b1 b2 b3 b4 b5; decide

theorem use_cases (own : List UInt8) (x : UseD) : ((!nameOK x.name) = true ∧ useOK own x = false) ∨
    ((!nameOK x.name) = false ∧ (x.name == own) = true ∧ useOK own x = false) ∨
    ((!nameOK x.name) = false ∧ (x.name == own) = false ∧ (x.names.any (fun x => !nameOK x)) = true ∧ useOK own x = false) ∨
    ((!nameOK x.name) = false ∧ (x.name == own) = false ∧ (x.names.any (fun x => !nameOK x)) = false ∧ decide ((100 : Int) < (x.names.length : Int)) = true ∧ useOK own x = false) ∨
    ((!nameOK x.name) = false ∧ (x.name == own) = false ∧ (x.names.any (fun x => !nameOK x)) = false ∧ decide ((100 : Int) < (x.names.length : Int)) = false ∧ decide ((4000 : Int) < (x.need.length : Int)) = true ∧ useOK own x = false) ∨
    ((!nameOK x.name) = false ∧ (x.name == own) = false ∧ (x.names.any (fun x => !nameOK x)) = false ∧ decide ((100 : Int) < (x.names.length : Int)) = false ∧ decide ((4000 : Int) < (x.need.length : Int)) = false ∧ useOK own x = true) := by
  have e : useOK own x = (!(!nameOK x.name) && !(x.name == own) && !(x.names.any (fun x => !nameOK x)) && !decide ((100 : Int) < (x.names.length : Int)) && !decide ((4000 : Int) < (x.need.length : Int))) := by
    have e1 : ∀ (a b : Nat), decide (a ≤ b) = !decide ((b : Int) < (a : Int)) := fun a b => by rw [Bool.eq_iff_iff]; simp
    have e2 : ∀ (a b : Nat), decide (a = b) = !((a : Int) != (b : Int)) := fun a b => by rw [Bool.eq_iff_iff]; simp; omega
    have e3 : ∀ l : List (List UInt8), l.all nameOK = !(l.any (fun x => !nameOK x)) := fun l => by rw [List.not_any_eq_all_not]; simp
    have e4 : ∀ a b : Int, decide (a ≤ b) = !decide (b < a) := fun a b => by rw [Bool.eq_iff_iff]; simp
    have e5 : ∀ a b : Int, decide (a = b) = !(a != b) := fun a b => by rw [Bool.eq_iff_iff]; simp
    simp only [useOK, e1, e3, Bool.not_not]; rfl
  rw [e]
  generalize (!nameOK x.name) = b0
  generalize (x.name == own) = b1
  generalize (x.names.any (fun x => !nameOK x)) = b2
  generalize decide ((100 : Int) < (x.names.length : Int)) = b3
  generalize decide ((4000 : Int) < (x.need.length : Int)) = b4
  clear e; revert b0 b1 b2 b3 b4; decide

theorem glob_cases (x : GlobD) : ((!nameOK x.name) = true ∧ globOK x = false) ∨
    ((!nameOK x.name) = false ∧ (x.place != (0 : Int)) = true ∧ globOK x = false) ∨
    ((!nameOK x.name) = false ∧ (x.place != (0 : Int)) = false ∧ decide (x.len < (0 : Int)) = true ∧ globOK x = false) ∨
    ((!nameOK x.name) = false ∧ (x.place != (0 : Int)) = false ∧ decide (x.len < (0 : Int)) = false ∧ decide ((30 : Int) < x.len) = true ∧ globOK x = false) ∨
    ((!nameOK x.name) = false ∧ (x.place != (0 : Int)) = false ∧ decide (x.len < (0 : Int)) = false ∧ decide ((30 : Int) < x.len) = false ∧ globOK x = true) := by
  have e : globOK x = (!(!nameOK x.name) && !(x.place != (0 : Int)) && !decide (x.len < (0 : Int)) && !decide ((30 : Int) < x.len)) := by
    have e1 : ∀ (a b : Nat), decide (a ≤ b) = !decide ((b : Int) < (a : Int)) := fun a b => by rw [Bool.eq_iff_iff]; simp
    have e2 : ∀ (a b : Nat), decide (a = b) = !((a : Int) != (b : Int)) := fun a b => by rw [Bool.eq_iff_iff]; simp; omega
    have e3 : ∀ l : List (List UInt8), l.all nameOK = !(l.any (fun x => !nameOK x)) := fun l => by rw [List.not_any_eq_all_not]; simp
    have e4 : ∀ a b : Int, decide (a ≤ b) = !decide (b < a) := fun a b => by rw [Bool.eq_iff_iff]; simp
    have e5 : ∀ a b : Int, decide (a = b) = !(a != b) := fun a b => by rw [Bool.eq_iff_iff]; simp
    simp only [globOK, e4, e5, Bool.not_not]
  rw [e]
  generalize (!nameOK x.name) = b0
  generalize (x.place != (0 : Int)) = b1
  generalize decide (x.len < (0 : Int)) = b2
  generalize decide ((30 : Int) < x.len) = b3
  clear e; revert b0 b1 b2 b3; decide

theorem ent_cases (n : Nat) (x : EntD) : (decide (x.place < (0 : Int)) = true ∧ entOK n x = false) ∨
    (decide (x.place < (0 : Int)) = false ∧ decide ((n : Int) ≤ x.place) = true ∧ entOK n x = false) ∨
    (decide (x.place < (0 : Int)) = false ∧ decide ((n : Int) ≤ x.place) = false ∧ decide (x.args < (0 : Int)) = true ∧ entOK n x = false) ∨
    (decide (x.place < (0 : Int)) = false ∧ decide ((n : Int) ≤ x.place) = false ∧ decide (x.args < (0 : Int)) = false ∧ decide (x.locals < x.args) = true ∧ entOK n x = false) ∨
    (decide (x.place < (0 : Int)) = false ∧ decide ((n : Int) ≤ x.place) = false ∧ decide (x.args < (0 : Int)) = false ∧ decide (x.locals < x.args) = false ∧ decide ((10 : Int) < x.locals) = true ∧ entOK n x = false) ∨
    (decide (x.place < (0 : Int)) = false ∧ decide ((n : Int) ≤ x.place) = false ∧ decide (x.args < (0 : Int)) = false ∧ decide (x.locals < x.args) = false ∧ decide ((10 : Int) < x.locals) = false ∧ entOK n x = true) := by
  have e : entOK n x = (!decide (x.place < (0 : Int)) && !decide ((n : Int) ≤ x.place) && !decide (x.args < (0 : Int)) && !decide (x.locals < x.args) && !decide ((10 : Int) < x.locals)) := by
    have e1 : ∀ (a b : Nat), decide (a ≤ b) = !decide ((b : Int) < (a : Int)) := fun a b => by rw [Bool.eq_iff_iff]; simp
    have e2 : ∀ (a b : Nat), decide (a = b) = !((a : Int) != (b : Int)) := fun a b => by rw [Bool.eq_iff_iff]; simp; omega
    have e3 : ∀ l : List (List UInt8), l.all nameOK = !(l.any (fun x => !nameOK x)) := fun l => by rw [List.not_any_eq_all_not]; simp
    have e4 : ∀ a b : Int, decide (a ≤ b) = !decide (b < a) := fun a b => by rw [Bool.eq_iff_iff]; simp
    have e5 : ∀ a b : Int, decide (a = b) = !(a != b) := fun a b => by rw [Bool.eq_iff_iff]; simp
    have e6 : ∀ a b : Int, decide (a < b) = !decide (b ≤ a) := fun a b => by rw [Bool.eq_iff_iff]; simp
    simp only [entOK, e4]; rw [e6 x.place n]; simp only [Bool.not_not]
  rw [e]
  generalize decide (x.place < (0 : Int)) = b0
  generalize decide ((n : Int) ≤ x.place) = b1
  generalize decide (x.args < (0 : Int)) = b2
  generalize decide (x.locals < x.args) = b3
  generalize decide ((10 : Int) < x.locals) = b4
  clear e; revert b0 b1 b2 b3 b4; decide


set_option maxHeartbeats 4000000 in
set_option maxRecDepth 100000 in
theorem parts_any (B b off : Nat) (o : ObjD) (M : ObjM) (w : World) (h : ObjAt w B b off o M) (hs : o.small) :
    Calls Tryz.prog 25 #[.pointer (some ⟨b, off, none⟩)] w (Ans w (.bool (partsOK o))) := by
  obtain ⟨sa, ua, va, pa, na, ca, sc, uc, vc, pc, nc, cc, us⟩ := M
  have hzs : o.syms.length ≤ 1099511627776 := hs.syms.1
  have hzu : o.uses.length ≤ 1099511627776 := hs.uses.1
  have hzv : o.vars.length ≤ 1099511627776 := hs.vars.1
  have hzp : o.procs.length ≤ 1099511627776 := hs.procs
  have hzc : o.code.length ≤ 1099511627776 := hs.code
  have h0 := h.c0
  have h1 := h.c1
  have h2 := h.c2
  have h3 := h.c3
  have h4 := h.c4
  have h5 := h.c5
  have h6 := h.c6
  dsimp only at h1 h2 h3 h4 h5 h6
  have hlt := h.blt
  have HLT := Lib.hid (show b < w.drew.heap.size from hlt)
  have HZ := Lib.hid (Zone.of (X := []) (w0 := w.drew) (off := off) (b := b) h0 (by simp))
  have hB1 := (fun w' => bad_any o.name w' hs.name)
  have hCF := (fun w' (hc : Chg [] w.drew w') => any_bad na o.names.length nc o.names (fun x => !nameOK x) w' rfl hs.names.1 (by
    have := (h.n.kept (Chg.drew (Chg.refl [] w)) (by simp)).kept hc (by simp)
    rw [map_flat] at this; exact this) (fun x hx w2 _ => bad_any x w2 (hs.names.2 x hx)))
  have H := Lib.hid h
  have HS := Lib.hid hs
  clear h hs hlt
  rcases head_cases o with ⟨t1, th⟩ | ⟨t1, t2, th⟩ | ⟨t1, t2, t3, th⟩ | ⟨t1, t2, t3, t4, th⟩ | ⟨t1, t2, t3, t4, t5, th⟩ | ⟨t1, t2, t3, t4, t5, t6, th⟩ | ⟨t1, t2, t3, t4, t5, t6, t7, th⟩ | ⟨t1, t2, t3, t4, t5, t6, t7, th⟩
  · have HTH := Lib.hid (parts_head th); clear th
    simp only [t1] at hB1
    skip
    have HB := Lib.hid hB1; have HCF := Lib.hid hCF
    clear hB1 hCF
    go_enter Tryz.func25, Tryz.ntmps25
    go_wp2_with fail
    refine wp_region_C [] rfl (by kernel_rfl) ?_
    have hS : Chg [] w.drew w.drew := Chg.refl _ _
    repeat
      (with_reducible show wpX _ _ _ _ _ _ _ _
       first
         | refine wpX_nil ?_
         | refine wpX_skip rfl ?_
         | refine wpX_mv rfl rfl (by kernel_rfl) (fun _ _ => ?_)
         | refine wpX_ldC rfl rfl rfl (by exact HZ.out) (by assumption) (fun _ _ => ?_)
         | refine wpX_ef' rfl rfl rfl (fun _ _ => ?_)
       go_wp2_with fail)
    refine (HB.out _).mono ?_; rintro _ _ ⟨rfl, hw⟩; have hS := Chg.then (by assumption) hw; have hk := Chg.cells hS HLT.out (by simp); clear hw
    go_wp2_with fail
    refine And.intro (by assumption : Chg _ _ _) ?_
    repeat
      (with_reducible show wpX _ _ _ _ _ _ _ _
       first
         | refine wpX_nil ?_
         | refine wpX_skip rfl ?_
         | refine wpX_mv rfl rfl (by kernel_rfl) (fun _ _ => ?_)
         | refine wpX_ldC rfl rfl rfl (by exact HZ.out) (by assumption) (fun _ _ => ?_)
         | refine wpX_ef' rfl rfl rfl (fun _ _ => ?_)
       go_wp2_with fail)
    go_ret
    rw [HTH.out]
    exact ⟨rfl, (Chg.drew (Chg.refl [] w)).then (by assumption)⟩
  · have HTH := Lib.hid (parts_head th); clear th
    simp only [t1] at hB1
    skip
    have HB := Lib.hid hB1; have HCF := Lib.hid hCF
    clear hB1 hCF
    go_enter Tryz.func25, Tryz.ntmps25
    go_wp2_with fail
    refine wp_region_C [] rfl (by kernel_rfl) ?_
    have hS : Chg [] w.drew w.drew := Chg.refl _ _
    repeat
      (with_reducible show wpX _ _ _ _ _ _ _ _
       first
         | refine wpX_nil ?_
         | refine wpX_skip rfl ?_
         | refine wpX_mv rfl rfl (by kernel_rfl) (fun _ _ => ?_)
         | refine wpX_ldC rfl rfl rfl (by exact HZ.out) (by assumption) (fun _ _ => ?_)
         | refine wpX_ef' rfl rfl rfl (fun _ _ => ?_)
       go_wp2_with fail)
    refine (HB.out _).mono ?_; rintro _ _ ⟨rfl, hw⟩; have hS := Chg.then (by assumption) hw; have hk := Chg.cells hS HLT.out (by simp); clear hw
    go_wp2_with fail
    refine And.intro (by assumption : Chg _ _ _) ?_
    repeat
      (with_reducible show wpX _ _ _ _ _ _ _ _
       first
         | refine wpX_nil ?_
         | refine wpX_skip rfl ?_
         | refine wpX_mv rfl rfl (by kernel_rfl) (fun _ _ => ?_)
         | refine wpX_ldC rfl rfl rfl (by exact HZ.out) (by assumption) (fun _ _ => ?_)
         | refine wpX_ef' rfl rfl rfl (fun _ _ => ?_)
       go_wp2_with fail)
    go_ret
    rw [HTH.out]
    exact ⟨rfl, (Chg.drew (Chg.refl [] w)).then (by assumption)⟩
  · have HTH := Lib.hid (parts_head th); clear th
    simp only [t1] at hB1
    skip
    have HB := Lib.hid hB1; have HCF := Lib.hid hCF
    clear hB1 hCF
    go_enter Tryz.func25, Tryz.ntmps25
    go_wp2_with fail
    refine wp_region_C [] rfl (by kernel_rfl) ?_
    have hS : Chg [] w.drew w.drew := Chg.refl _ _
    repeat
      (with_reducible show wpX _ _ _ _ _ _ _ _
       first
         | refine wpX_nil ?_
         | refine wpX_skip rfl ?_
         | refine wpX_mv rfl rfl (by kernel_rfl) (fun _ _ => ?_)
         | refine wpX_ldC rfl rfl rfl (by exact HZ.out) (by assumption) (fun _ _ => ?_)
         | refine wpX_ef' rfl rfl rfl (fun _ _ => ?_)
       go_wp2_with fail)
    refine (HB.out _).mono ?_; rintro _ _ ⟨rfl, hw⟩; have hS := Chg.then (by assumption) hw; have hk := Chg.cells hS HLT.out (by simp); clear hw
    go_wp2_with fail
    refine And.intro (by assumption : Chg _ _ _) ?_
    repeat
      (with_reducible show wpX _ _ _ _ _ _ _ _
       first
         | refine wpX_nil ?_
         | refine wpX_skip rfl ?_
         | refine wpX_mv rfl rfl (by kernel_rfl) (fun _ _ => ?_)
         | refine wpX_ldC rfl rfl rfl (by exact HZ.out) (by assumption) (fun _ _ => ?_)
         | refine wpX_ef' rfl rfl rfl (fun _ _ => ?_)
       go_wp2_with fail)
    go_ret
    rw [HTH.out]
    exact ⟨rfl, (Chg.drew (Chg.refl [] w)).then (by assumption)⟩
  · have HTH := Lib.hid (parts_head th); clear th
    simp only [t1] at hB1
    skip
    have HB := Lib.hid hB1; have HCF := Lib.hid hCF
    clear hB1 hCF
    go_enter Tryz.func25, Tryz.ntmps25
    go_wp2_with fail
    refine wp_region_C [] rfl (by kernel_rfl) ?_
    have hS : Chg [] w.drew w.drew := Chg.refl _ _
    repeat
      (with_reducible show wpX _ _ _ _ _ _ _ _
       first
         | refine wpX_nil ?_
         | refine wpX_skip rfl ?_
         | refine wpX_mv rfl rfl (by kernel_rfl) (fun _ _ => ?_)
         | refine wpX_ldC rfl rfl rfl (by exact HZ.out) (by assumption) (fun _ _ => ?_)
         | refine wpX_ef' rfl rfl rfl (fun _ _ => ?_)
       go_wp2_with fail)
    refine (HB.out _).mono ?_; rintro _ _ ⟨rfl, hw⟩; have hS := Chg.then (by assumption) hw; have hk := Chg.cells hS HLT.out (by simp); clear hw
    go_wp2_with fail
    refine And.intro (by assumption : Chg _ _ _) ?_
    repeat
      (with_reducible show wpX _ _ _ _ _ _ _ _
       first
         | refine wpX_nil ?_
         | refine wpX_skip rfl ?_
         | refine wpX_mv rfl rfl (by kernel_rfl) (fun _ _ => ?_)
         | refine wpX_ldC rfl rfl rfl (by exact HZ.out) (by assumption) (fun _ _ => ?_)
         | refine wpX_ef' rfl rfl rfl (fun _ _ => ?_)
       go_wp2_with fail)
    go_ret
    rw [HTH.out]
    exact ⟨rfl, (Chg.drew (Chg.refl [] w)).then (by assumption)⟩
  · have HTH := Lib.hid (parts_head th); clear th
    simp only [t1] at hB1
    skip
    have HB := Lib.hid hB1; have HCF := Lib.hid hCF
    clear hB1 hCF
    go_enter Tryz.func25, Tryz.ntmps25
    go_wp2_with fail
    refine wp_region_C [] rfl (by kernel_rfl) ?_
    have hS : Chg [] w.drew w.drew := Chg.refl _ _
    repeat
      (with_reducible show wpX _ _ _ _ _ _ _ _
       first
         | refine wpX_nil ?_
         | refine wpX_skip rfl ?_
         | refine wpX_mv rfl rfl (by kernel_rfl) (fun _ _ => ?_)
         | refine wpX_ldC rfl rfl rfl (by exact HZ.out) (by assumption) (fun _ _ => ?_)
         | refine wpX_ef' rfl rfl rfl (fun _ _ => ?_)
       go_wp2_with fail)
    refine (HB.out _).mono ?_; rintro _ _ ⟨rfl, hw⟩; have hS := Chg.then (by assumption) hw; have hk := Chg.cells hS HLT.out (by simp); clear hw
    go_wp2_with fail
    refine And.intro (by assumption : Chg _ _ _) ?_
    repeat
      (with_reducible show wpX _ _ _ _ _ _ _ _
       first
         | refine wpX_nil ?_
         | refine wpX_skip rfl ?_
         | refine wpX_mv rfl rfl (by kernel_rfl) (fun _ _ => ?_)
         | refine wpX_ldC rfl rfl rfl (by exact HZ.out) (by assumption) (fun _ _ => ?_)
         | refine wpX_ef' rfl rfl rfl (fun _ _ => ?_)
       go_wp2_with fail)
    go_ret
    rw [HTH.out]
    exact ⟨rfl, (Chg.drew (Chg.refl [] w)).then (by assumption)⟩
  · have HTH := Lib.hid (parts_head th); clear th
    simp only [t1] at hB1
    simp only [t6] at hCF
    have HB := Lib.hid hB1; have HCF := Lib.hid hCF
    clear hB1 hCF
    go_enter Tryz.func25, Tryz.ntmps25
    go_wp2_with fail
    refine wp_region_C [] rfl (by kernel_rfl) ?_
    have hS : Chg [] w.drew w.drew := Chg.refl _ _
    repeat
      (with_reducible show wpX _ _ _ _ _ _ _ _
       first
         | refine wpX_nil ?_
         | refine wpX_skip rfl ?_
         | refine wpX_mv rfl rfl (by kernel_rfl) (fun _ _ => ?_)
         | refine wpX_ldC rfl rfl rfl (by exact HZ.out) (by assumption) (fun _ _ => ?_)
         | refine wpX_ef' rfl rfl rfl (fun _ _ => ?_)
       go_wp2_with fail)
    refine (HB.out _).mono ?_; rintro _ _ ⟨rfl, hw⟩; have hS := Chg.then (by assumption) hw; have hk := Chg.cells hS HLT.out (by simp); clear hw
    go_wp2_with fail
    refine And.intro (by assumption : Chg _ _ _) ?_
    repeat
      (with_reducible show wpX _ _ _ _ _ _ _ _
       first
         | refine wpX_nil ?_
         | refine wpX_skip rfl ?_
         | refine wpX_mv rfl rfl (by kernel_rfl) (fun _ _ => ?_)
         | refine wpX_ldC rfl rfl rfl (by exact HZ.out) (by assumption) (fun _ _ => ?_)
         | refine wpX_ef' rfl rfl rfl (fun _ _ => ?_)
       go_wp2_with fail)
    refine (HCF.out _ (by assumption)).mono ?_; rintro _ _ ⟨rfl, hw⟩; have hS := Chg.then (by assumption) hw; have hk := Chg.cells hS HLT.out (by simp); clear hw
    go_wp2_with fail
    refine And.intro (by assumption : Chg _ _ _) ?_
    repeat
      (with_reducible show wpX _ _ _ _ _ _ _ _
       first
         | refine wpX_nil ?_
         | refine wpX_skip rfl ?_
         | refine wpX_mv rfl rfl (by kernel_rfl) (fun _ _ => ?_)
         | refine wpX_ldC rfl rfl rfl (by exact HZ.out) (by assumption) (fun _ _ => ?_)
         | refine wpX_ef' rfl rfl rfl (fun _ _ => ?_)
       go_wp2_with fail)
    go_ret
    rw [HTH.out]
    exact ⟨rfl, (Chg.drew (Chg.refl [] w)).then (by assumption)⟩
  · have HTH := Lib.hid (parts_head th); clear th
    simp only [t1] at hB1
    simp only [t6] at hCF
    have HB := Lib.hid hB1; have HCF := Lib.hid hCF
    clear hB1 hCF
    go_enter Tryz.func25, Tryz.ntmps25
    go_wp2_with fail
    refine wp_region_C [] rfl (by kernel_rfl) ?_
    have hS : Chg [] w.drew w.drew := Chg.refl _ _
    repeat
      (with_reducible show wpX _ _ _ _ _ _ _ _
       first
         | refine wpX_nil ?_
         | refine wpX_skip rfl ?_
         | refine wpX_mv rfl rfl (by kernel_rfl) (fun _ _ => ?_)
         | refine wpX_ldC rfl rfl rfl (by exact HZ.out) (by assumption) (fun _ _ => ?_)
         | refine wpX_ef' rfl rfl rfl (fun _ _ => ?_)
       go_wp2_with fail)
    refine (HB.out _).mono ?_; rintro _ _ ⟨rfl, hw⟩; have hS := Chg.then (by assumption) hw; have hk := Chg.cells hS HLT.out (by simp); clear hw
    go_wp2_with fail
    refine And.intro (by assumption : Chg _ _ _) ?_
    repeat
      (with_reducible show wpX _ _ _ _ _ _ _ _
       first
         | refine wpX_nil ?_
         | refine wpX_skip rfl ?_
         | refine wpX_mv rfl rfl (by kernel_rfl) (fun _ _ => ?_)
         | refine wpX_ldC rfl rfl rfl (by exact HZ.out) (by assumption) (fun _ _ => ?_)
         | refine wpX_ef' rfl rfl rfl (fun _ _ => ?_)
       go_wp2_with fail)
    refine (HCF.out _ (by assumption)).mono ?_; rintro _ _ ⟨rfl, hw⟩; have hS := Chg.then (by assumption) hw; have hk := Chg.cells hS HLT.out (by simp); clear hw
    go_wp2_with fail
    refine And.intro (by assumption : Chg _ _ _) ?_
    repeat
      (with_reducible show wpX _ _ _ _ _ _ _ _
       first
         | refine wpX_nil ?_
         | refine wpX_skip rfl ?_
         | refine wpX_mv rfl rfl (by kernel_rfl) (fun _ _ => ?_)
         | refine wpX_ldC rfl rfl rfl (by exact HZ.out) (by assumption) (fun _ _ => ?_)
         | refine wpX_ef' rfl rfl rfl (fun _ _ => ?_)
       go_wp2_with fail)
    go_ret
    rw [HTH.out]
    exact ⟨rfl, (Chg.drew (Chg.refl [] w)).then (by assumption)⟩
  · have HTH := Lib.hid th; clear th
    simp only [t1] at hB1
    simp only [t6] at hCF
    have HB := Lib.hid hB1; have HCF := Lib.hid hCF
    clear hB1 hCF
    go_enter Tryz.func25, Tryz.ntmps25
    go_wp2_with fail
    refine wp_region_C [] rfl (by kernel_rfl) ?_
    have hS : Chg [] w.drew w.drew := Chg.refl _ _
    repeat
      (with_reducible show wpX _ _ _ _ _ _ _ _
       first
         | refine wpX_nil ?_
         | refine wpX_skip rfl ?_
         | refine wpX_mv rfl rfl (by kernel_rfl) (fun _ _ => ?_)
         | refine wpX_ldC rfl rfl rfl (by exact HZ.out) (by assumption) (fun _ _ => ?_)
         | refine wpX_ef' rfl rfl rfl (fun _ _ => ?_)
       go_wp2_with fail)
    refine (HB.out _).mono ?_; rintro _ _ ⟨rfl, hw⟩; have hS := Chg.then (by assumption) hw; have hk := Chg.cells hS HLT.out (by simp); clear hw
    go_wp2_with fail
    refine And.intro (by assumption : Chg _ _ _) ?_
    repeat
      (with_reducible show wpX _ _ _ _ _ _ _ _
       first
         | refine wpX_nil ?_
         | refine wpX_skip rfl ?_
         | refine wpX_mv rfl rfl (by kernel_rfl) (fun _ _ => ?_)
         | refine wpX_ldC rfl rfl rfl (by exact HZ.out) (by assumption) (fun _ _ => ?_)
         | refine wpX_ef' rfl rfl rfl (fun _ _ => ?_)
       go_wp2_with fail)
    refine (HCF.out _ (by assumption)).mono ?_; rintro _ _ ⟨rfl, hw⟩; have hS := Chg.then (by assumption) hw; have hk := Chg.cells hS HLT.out (by simp); clear hw
    go_wp2_with fail
    refine And.intro (by assumption : Chg _ _ _) ?_
    repeat
      (with_reducible show wpX _ _ _ _ _ _ _ _
       first
         | refine wpX_nil ?_
         | refine wpX_skip rfl ?_
         | refine wpX_mv rfl rfl (by kernel_rfl) (fun _ _ => ?_)
         | refine wpX_ldC rfl rfl rfl (by exact HZ.out) (by assumption) (fun _ _ => ?_)
         | refine wpX_ef' rfl rfl rfl (fun _ _ => ?_)
       go_wp2_with fail)
    have hc0 := (Chg.drew (Chg.refl [] w)).then hS
    have HC0 := Lib.hid hc0
    clear h0 h1 h2 h3 h4 h5 h6 t1 t2 t3 t4 t5 t6 t7 hk hS hc0
    go_loopw [5, 76] (fun _ i wr => ∃ k : Nat, k ≤ o.syms.length ∧ i = .int .i64 k ∧ (o.syms.take k).all symOK = true ∧ Chg [] w wr) (fun _ i _ => o.syms.length - (intOf i).toNat)
    case atStart => exact ⟨0, Nat.zero_le _, rfl, by simp, HC0.out⟩
    case round =>
    obtain ⟨k, hk, rfl, hall, hc⟩ := hrel
    have HALL := Lib.hid hall; clear hall
    by_cases hlt : k < o.syms.length
    · obtain ⟨x, hx⟩ : ∃ x, o.syms[k]? = some x := ⟨o.syms[k], by simp [hlt]⟩
      have hat : At w sa (o.syms.flatMap SymD.cells) := H.out.s
      obtain ⟨bb, boff, rfl, hcell⟩ := hat (by rw [flat_len _ 3 (fun _ => rfl)]; omega)
      have hcs : ∀ j, j < 3 → wr.cell? ⟨bb, boff + (k * 3 + j), none⟩ = (SymD.cells x)[j]? := fun j hj => by
        have h1 := flat_get SymD.cells 3 (fun _ => rfl) o.syms k j x hx hj
        have h2 : j < (SymD.cells x).length := hj
        rw [List.getElem?_eq_getElem h2] at h1 ⊢
        exact hc.cellSome (hcell _ _ (by simpa using h1)) (by simp)
      have hc0 : wr.cell? ⟨bb, boff + k * 3, none⟩ = some (str x.name) := hcs 0 (by omega)
      have hc1 : wr.cell? ⟨bb, boff + k * 3 + 1, none⟩ = some (.int .i64 x.len) := by have := hcs 1 (by omega); rw [← Nat.add_assoc] at this; exact this
      have hc2 : wr.cell? ⟨bb, boff + k * 3 + 2, none⟩ = some (.int .i64 x.args) := by have := hcs 2 (by omega); rw [← Nat.add_assoc] at this; exact this
      have hc_0 : wr.cell? ⟨b, off, none⟩ = _ := hc.cellSome H.out.c0 (by simp)
      have hc_6 : wr.cell? ⟨b, off + 6, none⟩ = _ := hc.cellSome H.out.c6 (by simp)
      dsimp only at hc_6
      have hltw : b < wr.heap.size := Nat.lt_of_lt_of_le H.out.blt hc.size
      have HLTW := Lib.hid hltw
      have HX := Lib.hid hx; have HC := Lib.hid hc
      have hb := fun w' => bad_any x.name w' (HS.out.syms.2 x (List.mem_of_getElem? hx))
      clear hcs hcell hx hc hat
      rcases sym_cases x with ⟨t1, th⟩ | ⟨t1, t2, th⟩ | ⟨t1, t2, t3, th⟩ | ⟨t1, t2, t3, t4, th⟩ | ⟨t1, t2, t3, t4, t5, th⟩ | ⟨t1, t2, t3, t4, t5, t6, th⟩ | ⟨t1, t2, t3, t4, t5, t6, th⟩
      · simp only [t1] at hb
        have HB := Lib.hid hb; have TH := Lib.hid th; clear hb th
        go_wp2_with fail
        refine (HB.out _).mono ?_; rintro _ w2 ⟨rfl, hw⟩
        have hl := (Blk.new wr _ _).kept hw (by simp)
        have HW := Lib.hid hw; clear hw
        have hl0 := hl.cell 0 _ rfl
        have hl1 := hl.cell 1 _ rfl
        have hl2 := hl.cell 2 _ rfl
        · go_wp2_with fail
          go_ret
          rw [parts_no (.inl (all_no HX.out TH.out))]
          exact ⟨rfl, (HC.out.alloc _).then HW.out⟩
      · simp only [t1] at hb
        have HB := Lib.hid hb; have TH := Lib.hid th; clear hb th
        go_wp2_with fail
        refine (HB.out _).mono ?_; rintro _ w2 ⟨rfl, hw⟩
        have hl := (Blk.new wr _ _).kept hw (by simp)
        have HW := Lib.hid hw; clear hw
        have hl0 := hl.cell 0 _ rfl
        have hl1 := hl.cell 1 _ rfl
        have hl2 := hl.cell 2 _ rfl
        · go_wp2_with fail
          go_ret
          rw [parts_no (.inl (all_no HX.out TH.out))]
          exact ⟨rfl, (HC.out.alloc _).then HW.out⟩
      · simp only [t1] at hb
        have HB := Lib.hid hb; have TH := Lib.hid th; clear hb th
        go_wp2_with fail
        refine (HB.out _).mono ?_; rintro _ w2 ⟨rfl, hw⟩
        have hl := (Blk.new wr _ _).kept hw (by simp)
        have HW := Lib.hid hw; clear hw
        have hl0 := hl.cell 0 _ rfl
        have hl1 := hl.cell 1 _ rfl
        have hl2 := hl.cell 2 _ rfl
        · go_wp2_with fail
          go_ret
          rw [parts_no (.inl (all_no HX.out TH.out))]
          exact ⟨rfl, (HC.out.alloc _).then HW.out⟩
      · simp only [t1] at hb
        have HB := Lib.hid hb; have TH := Lib.hid th; clear hb th
        go_wp2_with fail
        refine (HB.out _).mono ?_; rintro _ w2 ⟨rfl, hw⟩
        have hl := (Blk.new wr _ _).kept hw (by simp)
        have HW := Lib.hid hw; clear hw
        have hl0 := hl.cell 0 _ rfl
        have hl1 := hl.cell 1 _ rfl
        have hl2 := hl.cell 2 _ rfl
        · go_wp2_with fail
          go_ret
          rw [parts_no (.inl (all_no HX.out TH.out))]
          exact ⟨rfl, (HC.out.alloc _).then HW.out⟩
      · simp only [t1] at hb
        have HB := Lib.hid hb; have TH := Lib.hid th; clear hb th
        go_wp2_with fail
        refine (HB.out _).mono ?_; rintro _ w2 ⟨rfl, hw⟩
        have hl := (Blk.new wr _ _).kept hw (by simp)
        have HW := Lib.hid hw; clear hw
        have hl0 := hl.cell 0 _ rfl
        have hl1 := hl.cell 1 _ rfl
        have hl2 := hl.cell 2 _ rfl
        · go_wp2_with fail
          go_ret
          rw [parts_no (.inl (all_no HX.out TH.out))]
          exact ⟨rfl, (HC.out.alloc _).then HW.out⟩
      · simp only [t1] at hb
        have HB := Lib.hid hb; have TH := Lib.hid th; clear hb th
        go_wp2_with fail
        refine (HB.out _).mono ?_; rintro _ w2 ⟨rfl, hw⟩
        have hl := (Blk.new wr _ _).kept hw (by simp)
        have HW := Lib.hid hw; clear hw
        have hl0 := hl.cell 0 _ rfl
        have hl1 := hl.cell 1 _ rfl
        have hl2 := hl.cell 2 _ rfl
        · obtain ⟨t6, t7⟩ := Bool.and_eq_true_iff.1 t6
          go_wp2_with fail
          go_ret
          rw [parts_no (.inl (all_no HX.out TH.out))]
          exact ⟨rfl, (HC.out.alloc _).then HW.out⟩
      · simp only [t1] at hb
        have HB := Lib.hid hb; have TH := Lib.hid th; clear hb th
        go_wp2_with fail
        refine (HB.out _).mono ?_; rintro _ w2 ⟨rfl, hw⟩
        have hl := (Blk.new wr _ _).kept hw (by simp)
        have HW := Lib.hid hw; clear hw
        have hl0 := hl.cell 0 _ rfl
        have hl1 := hl.cell 1 _ rfl
        have hl2 := hl.cell 2 _ rfl
        · rcases and_no t6 with t6 | ⟨t6, t7⟩
          all_goals go_wp2_with fail
          · go_roundw
            case rel => exact ⟨k + 1, by omega, by go_num, all_next HX.out TH.out HALL.out, (HC.out.alloc _).then HW.out⟩
            case measure => simp [intOf]; omega
          · go_roundw
            case rel => exact ⟨k + 1, by omega, by go_num, all_next HX.out TH.out HALL.out, (HC.out.alloc _).then HW.out⟩
            case measure => simp [intOf]; omega
    · have hkn : k = o.syms.length := by omega
      have HA_syms := Lib.hid (show o.syms.all symOK = true by have := HALL.out; rwa [hkn, List.take_length] at this)
      have HC0 := Lib.hid hc
      have h_0 : wr.cell? ⟨b, off, none⟩ = _ := hc.cellSome H.out.c0 (by simp)
      have h_2 : wr.cell? ⟨b, off + 2, none⟩ = _ := hc.cellSome H.out.c2 (by simp)
      have h_3 : wr.cell? ⟨b, off + 3, none⟩ = _ := hc.cellSome H.out.c3 (by simp)
      have h_4 : wr.cell? ⟨b, off + 4, none⟩ = _ := hc.cellSome H.out.c4 (by simp)
      dsimp only at h_2 h_3 h_4
      clear hc hk hkn HALL
      go_wp2_with fail
      clear h_0 h_2 h_3 h_4 hlt
      go_loopw [7, 120] (fun _ i wr => ∃ k : Nat, k ≤ o.uses.length ∧ i = .int .i64 k ∧ (o.uses.take k).all (useOK o.name) = true ∧ Chg [] w wr) (fun _ i _ => o.uses.length - (intOf i).toNat)
      case atStart => exact ⟨0, Nat.zero_le _, rfl, by simp, HC0.out⟩
      case round =>
      obtain ⟨k, hk, rfl, hall, hc⟩ := hrel
      have HALL := Lib.hid hall; clear hall
      by_cases hlt : k < o.uses.length
      · have hus : us.map (·.u) = o.uses := H.out.us
        obtain ⟨m, hm⟩ : ∃ m, us[k]? = some m := by
          have : us.length = o.uses.length := by rw [← hus, List.length_map]
          exact ⟨us[k], by simp [this, hlt]⟩
        have hx : o.uses[k]? = some m.u := by rw [← hus, List.getElem?_map, hm]; rfl
        have hul : us.length = o.uses.length := by rw [← hus, List.length_map]
        have hat : At w ua (us.flatMap UseM.cells) := H.out.u
        obtain ⟨bb, boff, rfl, hcell⟩ := hat (by rw [flat_len _ 3 (fun _ => rfl)]; omega)
        have hcs : ∀ j, j < 3 → wr.cell? ⟨bb, boff + (k * 3 + j), none⟩ = (UseM.cells m)[j]? := fun j hj => by
          have h1 := flat_get UseM.cells 3 (fun _ => rfl) us k j m hm hj
          have h2 : j < (UseM.cells m).length := hj
          rw [List.getElem?_eq_getElem h2] at h1 ⊢
          exact hc.cellSome (hcell _ _ (by simpa using h1)) (by simp)
        have hc0 : wr.cell? ⟨bb, boff + k * 3, none⟩ = some (str m.u.name) := hcs 0 (by omega)
        have hc1 : wr.cell? ⟨bb, boff + k * 3 + 1, none⟩ = some (str m.u.need) := by have := hcs 1 (by omega); rw [← Nat.add_assoc] at this; exact this
        have hc2 : wr.cell? ⟨bb, boff + k * 3 + 2, none⟩ = some (.slice m.at_ m.u.names.length m.cap) := by have := hcs 2 (by omega); rw [← Nat.add_assoc] at this; exact this
        have hc_0 : wr.cell? ⟨b, off, none⟩ = _ := hc.cellSome H.out.c0 (by simp)
        have hc_6 : wr.cell? ⟨b, off + 6, none⟩ = _ := hc.cellSome H.out.c6 (by simp)
        dsimp only at hc_6
        have hltw : b < wr.heap.size := Nat.lt_of_lt_of_le H.out.blt hc.size
        have HLTW := Lib.hid hltw
        have HX := Lib.hid hx; have HC := Lib.hid hc
        have hb := fun w' => bad_any m.u.name w' (HS.out.uses.2 m.u (List.mem_of_getElem? hx)).1
        have hun := H.out.un m (List.mem_of_getElem? hm)
        have hcf := (fun w' (hc' : Chg [] (wr.alloc (.cells #[str m.u.name, str m.u.need, .slice m.at_ m.u.names.length m.cap] 56)).drew w') => any_bad m.at_ m.u.names.length m.cap m.u.names (fun x => !nameOK x) w' rfl (HS.out.uses.2 m.u (List.mem_of_getElem? hx)).2.2.1 (by
          have := (hun.1.kept (hc.alloc (.cells #[str m.u.name, str m.u.need, .slice m.at_ m.u.names.length m.cap] 56)).drew (by simp)).kept hc' (by simp)
          rw [map_flat] at this; exact this) (fun x hx' w2 _ => bad_any x w2 ((HS.out.uses.2 m.u (List.mem_of_getElem? hx)).2.2.2 x hx')))
        clear hun hm hus hul
        clear hcs hcell hx hc hat
        rcases use_cases o.name m.u with ⟨t1, th⟩ | ⟨t1, t2, th⟩ | ⟨t1, t2, t3, th⟩ | ⟨t1, t2, t3, t4, th⟩ | ⟨t1, t2, t3, t4, t5, th⟩ | ⟨t1, t2, t3, t4, t5, th⟩
        · simp only [t1] at hb
          skip
          have HB := Lib.hid hb; have HCF := Lib.hid hcf; have TH := Lib.hid th; clear hb hcf th
          go_wp2_with fail
          refine wp_region_C [] rfl (by kernel_rfl) ?_
          have hl := Blk.new wr #[str m.u.name, str m.u.need, .slice m.at_ m.u.names.length m.cap] 56
          have hlz : (wr.alloc (.cells #[str m.u.name, str m.u.need, .slice m.at_ m.u.names.length m.cap] 56)).drew.cell? ⟨wr.heap.size, 0, none⟩ = _ := hl.cell 0 _ rfl
          have hoz : (wr.alloc (.cells #[str m.u.name, str m.u.need, .slice m.at_ m.u.names.length m.cap] 56)).drew.cell? ⟨b, off, none⟩ = _ := ((Chg.refl [] wr).alloc _).drew.cellSome hc_0 (by simp)
          have HZL := Lib.hid (Zone.of (X := []) hlz (by simp))
          have HZO := Lib.hid (Zone.of (X := []) hoz (by simp))
          have HSZ := Lib.hid (show b < (wr.alloc (.cells #[str m.u.name, str m.u.need, .slice m.at_ m.u.names.length m.cap] 56)).drew.heap.size by have := HLTW.out; simp; omega)
          have HSL := Lib.hid (show wr.heap.size < (wr.alloc (.cells #[str m.u.name, str m.u.need, .slice m.at_ m.u.names.length m.cap] 56)).drew.heap.size by simp)
          clear hl hlz hoz
          have hS : Chg [] (wr.alloc (.cells #[str m.u.name, str m.u.need, .slice m.at_ m.u.names.length m.cap] 56)).drew (wr.alloc (.cells #[str m.u.name, str m.u.need, .slice m.at_ m.u.names.length m.cap] 56)).drew := Chg.refl _ _
          repeat
            (with_reducible show wpX _ _ _ _ _ _ _ _
             first
               | refine wpX_nil ?_
               | refine wpX_skip rfl ?_
               | refine wpX_mv rfl rfl (by kernel_rfl) (fun _ _ => ?_)
               | refine wpX_ldC rfl rfl rfl (by first | exact HZL.out | exact HZO.out) (by assumption) (fun _ _ => ?_)
               | refine wpX_ef' rfl rfl rfl (fun _ _ => ?_)
             go_wp2_with fail)
          refine (HB.out _).mono ?_; rintro _ _ ⟨rfl, hw⟩; have hS := Chg.then (by assumption) hw; have hk := Chg.cells hS HSZ.out (by simp); have hk2 := Chg.cells hS HSL.out (by simp); clear hw
          go_wp2_with fail
          refine And.intro (by assumption : Chg _ _ _) ?_
          repeat
            (with_reducible show wpX _ _ _ _ _ _ _ _
             first
               | refine wpX_nil ?_
               | refine wpX_skip rfl ?_
               | refine wpX_mv rfl rfl (by kernel_rfl) (fun _ _ => ?_)
               | refine wpX_ldC rfl rfl rfl (by first | exact HZL.out | exact HZO.out) (by assumption) (fun _ _ => ?_)
               | refine wpX_ef' rfl rfl rfl (fun _ _ => ?_)
             go_wp2_with fail)
          · go_ret
            rw [parts_no (.inr <| .inl <| (all_no HX.out TH.out))]
            exact ⟨rfl, ((HC.out.alloc _).drew).then hS⟩
        · simp only [t1] at hb
          skip
          have HB := Lib.hid hb; have HCF := Lib.hid hcf; have TH := Lib.hid th; clear hb hcf th
          go_wp2_with fail
          refine wp_region_C [] rfl (by kernel_rfl) ?_
          have hl := Blk.new wr #[str m.u.name, str m.u.need, .slice m.at_ m.u.names.length m.cap] 56
          have hlz : (wr.alloc (.cells #[str m.u.name, str m.u.need, .slice m.at_ m.u.names.length m.cap] 56)).drew.cell? ⟨wr.heap.size, 0, none⟩ = _ := hl.cell 0 _ rfl
          have hoz : (wr.alloc (.cells #[str m.u.name, str m.u.need, .slice m.at_ m.u.names.length m.cap] 56)).drew.cell? ⟨b, off, none⟩ = _ := ((Chg.refl [] wr).alloc _).drew.cellSome hc_0 (by simp)
          have HZL := Lib.hid (Zone.of (X := []) hlz (by simp))
          have HZO := Lib.hid (Zone.of (X := []) hoz (by simp))
          have HSZ := Lib.hid (show b < (wr.alloc (.cells #[str m.u.name, str m.u.need, .slice m.at_ m.u.names.length m.cap] 56)).drew.heap.size by have := HLTW.out; simp; omega)
          have HSL := Lib.hid (show wr.heap.size < (wr.alloc (.cells #[str m.u.name, str m.u.need, .slice m.at_ m.u.names.length m.cap] 56)).drew.heap.size by simp)
          clear hl hlz hoz
          have hS : Chg [] (wr.alloc (.cells #[str m.u.name, str m.u.need, .slice m.at_ m.u.names.length m.cap] 56)).drew (wr.alloc (.cells #[str m.u.name, str m.u.need, .slice m.at_ m.u.names.length m.cap] 56)).drew := Chg.refl _ _
          repeat
            (with_reducible show wpX _ _ _ _ _ _ _ _
             first
               | refine wpX_nil ?_
               | refine wpX_skip rfl ?_
               | refine wpX_mv rfl rfl (by kernel_rfl) (fun _ _ => ?_)
               | refine wpX_ldC rfl rfl rfl (by first | exact HZL.out | exact HZO.out) (by assumption) (fun _ _ => ?_)
               | refine wpX_ef' rfl rfl rfl (fun _ _ => ?_)
             go_wp2_with fail)
          refine (HB.out _).mono ?_; rintro _ _ ⟨rfl, hw⟩; have hS := Chg.then (by assumption) hw; have hk := Chg.cells hS HSZ.out (by simp); have hk2 := Chg.cells hS HSL.out (by simp); clear hw
          go_wp2_with fail
          refine And.intro (by assumption : Chg _ _ _) ?_
          repeat
            (with_reducible show wpX _ _ _ _ _ _ _ _
             first
               | refine wpX_nil ?_
               | refine wpX_skip rfl ?_
               | refine wpX_mv rfl rfl (by kernel_rfl) (fun _ _ => ?_)
               | refine wpX_ldC rfl rfl rfl (by first | exact HZL.out | exact HZO.out) (by assumption) (fun _ _ => ?_)
               | refine wpX_ef' rfl rfl rfl (fun _ _ => ?_)
             go_wp2_with fail)
          · go_ret
            rw [parts_no (.inr <| .inl <| (all_no HX.out TH.out))]
            exact ⟨rfl, ((HC.out.alloc _).drew).then hS⟩
        · simp only [t1] at hb
          simp only [t3] at hcf
          have HB := Lib.hid hb; have HCF := Lib.hid hcf; have TH := Lib.hid th; clear hb hcf th
          go_wp2_with fail
          refine wp_region_C [] rfl (by kernel_rfl) ?_
          have hl := Blk.new wr #[str m.u.name, str m.u.need, .slice m.at_ m.u.names.length m.cap] 56
          have hlz : (wr.alloc (.cells #[str m.u.name, str m.u.need, .slice m.at_ m.u.names.length m.cap] 56)).drew.cell? ⟨wr.heap.size, 0, none⟩ = _ := hl.cell 0 _ rfl
          have hoz : (wr.alloc (.cells #[str m.u.name, str m.u.need, .slice m.at_ m.u.names.length m.cap] 56)).drew.cell? ⟨b, off, none⟩ = _ := ((Chg.refl [] wr).alloc _).drew.cellSome hc_0 (by simp)
          have HZL := Lib.hid (Zone.of (X := []) hlz (by simp))
          have HZO := Lib.hid (Zone.of (X := []) hoz (by simp))
          have HSZ := Lib.hid (show b < (wr.alloc (.cells #[str m.u.name, str m.u.need, .slice m.at_ m.u.names.length m.cap] 56)).drew.heap.size by have := HLTW.out; simp; omega)
          have HSL := Lib.hid (show wr.heap.size < (wr.alloc (.cells #[str m.u.name, str m.u.need, .slice m.at_ m.u.names.length m.cap] 56)).drew.heap.size by simp)
          clear hl hlz hoz
          have hS : Chg [] (wr.alloc (.cells #[str m.u.name, str m.u.need, .slice m.at_ m.u.names.length m.cap] 56)).drew (wr.alloc (.cells #[str m.u.name, str m.u.need, .slice m.at_ m.u.names.length m.cap] 56)).drew := Chg.refl _ _
          repeat
            (with_reducible show wpX _ _ _ _ _ _ _ _
             first
               | refine wpX_nil ?_
               | refine wpX_skip rfl ?_
               | refine wpX_mv rfl rfl (by kernel_rfl) (fun _ _ => ?_)
               | refine wpX_ldC rfl rfl rfl (by first | exact HZL.out | exact HZO.out) (by assumption) (fun _ _ => ?_)
               | refine wpX_ef' rfl rfl rfl (fun _ _ => ?_)
             go_wp2_with fail)
          refine (HB.out _).mono ?_; rintro _ _ ⟨rfl, hw⟩; have hS := Chg.then (by assumption) hw; have hk := Chg.cells hS HSZ.out (by simp); have hk2 := Chg.cells hS HSL.out (by simp); clear hw
          go_wp2_with fail
          refine And.intro (by assumption : Chg _ _ _) ?_
          repeat
            (with_reducible show wpX _ _ _ _ _ _ _ _
             first
               | refine wpX_nil ?_
               | refine wpX_skip rfl ?_
               | refine wpX_mv rfl rfl (by kernel_rfl) (fun _ _ => ?_)
               | refine wpX_ldC rfl rfl rfl (by first | exact HZL.out | exact HZO.out) (by assumption) (fun _ _ => ?_)
               | refine wpX_ef' rfl rfl rfl (fun _ _ => ?_)
             go_wp2_with fail)
          refine (HCF.out _ (by assumption)).mono ?_; rintro _ _ ⟨rfl, hw⟩; have hS := Chg.then (by assumption) hw; have hk := Chg.cells hS HSZ.out (by simp); have hk2 := Chg.cells hS HSL.out (by simp); clear hw
          go_wp2_with fail
          refine And.intro (by assumption : Chg _ _ _) ?_
          repeat
            (with_reducible show wpX _ _ _ _ _ _ _ _
             first
               | refine wpX_nil ?_
               | refine wpX_skip rfl ?_
               | refine wpX_mv rfl rfl (by kernel_rfl) (fun _ _ => ?_)
               | refine wpX_ldC rfl rfl rfl (by first | exact HZL.out | exact HZO.out) (by assumption) (fun _ _ => ?_)
               | refine wpX_ef' rfl rfl rfl (fun _ _ => ?_)
             go_wp2_with fail)
          · go_ret
            rw [parts_no (.inr <| .inl <| (all_no HX.out TH.out))]
            exact ⟨rfl, ((HC.out.alloc _).drew).then hS⟩
        · simp only [t1] at hb
          simp only [t3] at hcf
          have HB := Lib.hid hb; have HCF := Lib.hid hcf; have TH := Lib.hid th; clear hb hcf th
          go_wp2_with fail
          refine wp_region_C [] rfl (by kernel_rfl) ?_
          have hl := Blk.new wr #[str m.u.name, str m.u.need, .slice m.at_ m.u.names.length m.cap] 56
          have hlz : (wr.alloc (.cells #[str m.u.name, str m.u.need, .slice m.at_ m.u.names.length m.cap] 56)).drew.cell? ⟨wr.heap.size, 0, none⟩ = _ := hl.cell 0 _ rfl
          have hoz : (wr.alloc (.cells #[str m.u.name, str m.u.need, .slice m.at_ m.u.names.length m.cap] 56)).drew.cell? ⟨b, off, none⟩ = _ := ((Chg.refl [] wr).alloc _).drew.cellSome hc_0 (by simp)
          have HZL := Lib.hid (Zone.of (X := []) hlz (by simp))
          have HZO := Lib.hid (Zone.of (X := []) hoz (by simp))
          have HSZ := Lib.hid (show b < (wr.alloc (.cells #[str m.u.name, str m.u.need, .slice m.at_ m.u.names.length m.cap] 56)).drew.heap.size by have := HLTW.out; simp; omega)
          have HSL := Lib.hid (show wr.heap.size < (wr.alloc (.cells #[str m.u.name, str m.u.need, .slice m.at_ m.u.names.length m.cap] 56)).drew.heap.size by simp)
          clear hl hlz hoz
          have hS : Chg [] (wr.alloc (.cells #[str m.u.name, str m.u.need, .slice m.at_ m.u.names.length m.cap] 56)).drew (wr.alloc (.cells #[str m.u.name, str m.u.need, .slice m.at_ m.u.names.length m.cap] 56)).drew := Chg.refl _ _
          repeat
            (with_reducible show wpX _ _ _ _ _ _ _ _
             first
               | refine wpX_nil ?_
               | refine wpX_skip rfl ?_
               | refine wpX_mv rfl rfl (by kernel_rfl) (fun _ _ => ?_)
               | refine wpX_ldC rfl rfl rfl (by first | exact HZL.out | exact HZO.out) (by assumption) (fun _ _ => ?_)
               | refine wpX_ef' rfl rfl rfl (fun _ _ => ?_)
             go_wp2_with fail)
          refine (HB.out _).mono ?_; rintro _ _ ⟨rfl, hw⟩; have hS := Chg.then (by assumption) hw; have hk := Chg.cells hS HSZ.out (by simp); have hk2 := Chg.cells hS HSL.out (by simp); clear hw
          go_wp2_with fail
          refine And.intro (by assumption : Chg _ _ _) ?_
          repeat
            (with_reducible show wpX _ _ _ _ _ _ _ _
             first
               | refine wpX_nil ?_
               | refine wpX_skip rfl ?_
               | refine wpX_mv rfl rfl (by kernel_rfl) (fun _ _ => ?_)
               | refine wpX_ldC rfl rfl rfl (by first | exact HZL.out | exact HZO.out) (by assumption) (fun _ _ => ?_)
               | refine wpX_ef' rfl rfl rfl (fun _ _ => ?_)
             go_wp2_with fail)
          refine (HCF.out _ (by assumption)).mono ?_; rintro _ _ ⟨rfl, hw⟩; have hS := Chg.then (by assumption) hw; have hk := Chg.cells hS HSZ.out (by simp); have hk2 := Chg.cells hS HSL.out (by simp); clear hw
          go_wp2_with fail
          refine And.intro (by assumption : Chg _ _ _) ?_
          repeat
            (with_reducible show wpX _ _ _ _ _ _ _ _
             first
               | refine wpX_nil ?_
               | refine wpX_skip rfl ?_
               | refine wpX_mv rfl rfl (by kernel_rfl) (fun _ _ => ?_)
               | refine wpX_ldC rfl rfl rfl (by first | exact HZL.out | exact HZO.out) (by assumption) (fun _ _ => ?_)
               | refine wpX_ef' rfl rfl rfl (fun _ _ => ?_)
             go_wp2_with fail)
          · go_ret
            rw [parts_no (.inr <| .inl <| (all_no HX.out TH.out))]
            exact ⟨rfl, ((HC.out.alloc _).drew).then hS⟩
        · simp only [t1] at hb
          simp only [t3] at hcf
          have HB := Lib.hid hb; have HCF := Lib.hid hcf; have TH := Lib.hid th; clear hb hcf th
          go_wp2_with fail
          refine wp_region_C [] rfl (by kernel_rfl) ?_
          have hl := Blk.new wr #[str m.u.name, str m.u.need, .slice m.at_ m.u.names.length m.cap] 56
          have hlz : (wr.alloc (.cells #[str m.u.name, str m.u.need, .slice m.at_ m.u.names.length m.cap] 56)).drew.cell? ⟨wr.heap.size, 0, none⟩ = _ := hl.cell 0 _ rfl
          have hoz : (wr.alloc (.cells #[str m.u.name, str m.u.need, .slice m.at_ m.u.names.length m.cap] 56)).drew.cell? ⟨b, off, none⟩ = _ := ((Chg.refl [] wr).alloc _).drew.cellSome hc_0 (by simp)
          have HZL := Lib.hid (Zone.of (X := []) hlz (by simp))
          have HZO := Lib.hid (Zone.of (X := []) hoz (by simp))
          have HSZ := Lib.hid (show b < (wr.alloc (.cells #[str m.u.name, str m.u.need, .slice m.at_ m.u.names.length m.cap] 56)).drew.heap.size by have := HLTW.out; simp; omega)
          have HSL := Lib.hid (show wr.heap.size < (wr.alloc (.cells #[str m.u.name, str m.u.need, .slice m.at_ m.u.names.length m.cap] 56)).drew.heap.size by simp)
          clear hl hlz hoz
          have hS : Chg [] (wr.alloc (.cells #[str m.u.name, str m.u.need, .slice m.at_ m.u.names.length m.cap] 56)).drew (wr.alloc (.cells #[str m.u.name, str m.u.need, .slice m.at_ m.u.names.length m.cap] 56)).drew := Chg.refl _ _
          repeat
            (with_reducible show wpX _ _ _ _ _ _ _ _
             first
               | refine wpX_nil ?_
               | refine wpX_skip rfl ?_
               | refine wpX_mv rfl rfl (by kernel_rfl) (fun _ _ => ?_)
               | refine wpX_ldC rfl rfl rfl (by first | exact HZL.out | exact HZO.out) (by assumption) (fun _ _ => ?_)
               | refine wpX_ef' rfl rfl rfl (fun _ _ => ?_)
             go_wp2_with fail)
          refine (HB.out _).mono ?_; rintro _ _ ⟨rfl, hw⟩; have hS := Chg.then (by assumption) hw; have hk := Chg.cells hS HSZ.out (by simp); have hk2 := Chg.cells hS HSL.out (by simp); clear hw
          go_wp2_with fail
          refine And.intro (by assumption : Chg _ _ _) ?_
          repeat
            (with_reducible show wpX _ _ _ _ _ _ _ _
             first
               | refine wpX_nil ?_
               | refine wpX_skip rfl ?_
               | refine wpX_mv rfl rfl (by kernel_rfl) (fun _ _ => ?_)
               | refine wpX_ldC rfl rfl rfl (by first | exact HZL.out | exact HZO.out) (by assumption) (fun _ _ => ?_)
               | refine wpX_ef' rfl rfl rfl (fun _ _ => ?_)
             go_wp2_with fail)
          refine (HCF.out _ (by assumption)).mono ?_; rintro _ _ ⟨rfl, hw⟩; have hS := Chg.then (by assumption) hw; have hk := Chg.cells hS HSZ.out (by simp); have hk2 := Chg.cells hS HSL.out (by simp); clear hw
          go_wp2_with fail
          refine And.intro (by assumption : Chg _ _ _) ?_
          repeat
            (with_reducible show wpX _ _ _ _ _ _ _ _
             first
               | refine wpX_nil ?_
               | refine wpX_skip rfl ?_
               | refine wpX_mv rfl rfl (by kernel_rfl) (fun _ _ => ?_)
               | refine wpX_ldC rfl rfl rfl (by first | exact HZL.out | exact HZO.out) (by assumption) (fun _ _ => ?_)
               | refine wpX_ef' rfl rfl rfl (fun _ _ => ?_)
             go_wp2_with fail)
          · go_ret
            rw [parts_no (.inr <| .inl <| (all_no HX.out TH.out))]
            exact ⟨rfl, ((HC.out.alloc _).drew).then hS⟩
        · simp only [t1] at hb
          simp only [t3] at hcf
          have HB := Lib.hid hb; have HCF := Lib.hid hcf; have TH := Lib.hid th; clear hb hcf th
          go_wp2_with fail
          refine wp_region_C [] rfl (by kernel_rfl) ?_
          have hl := Blk.new wr #[str m.u.name, str m.u.need, .slice m.at_ m.u.names.length m.cap] 56
          have hlz : (wr.alloc (.cells #[str m.u.name, str m.u.need, .slice m.at_ m.u.names.length m.cap] 56)).drew.cell? ⟨wr.heap.size, 0, none⟩ = _ := hl.cell 0 _ rfl
          have hoz : (wr.alloc (.cells #[str m.u.name, str m.u.need, .slice m.at_ m.u.names.length m.cap] 56)).drew.cell? ⟨b, off, none⟩ = _ := ((Chg.refl [] wr).alloc _).drew.cellSome hc_0 (by simp)
          have HZL := Lib.hid (Zone.of (X := []) hlz (by simp))
          have HZO := Lib.hid (Zone.of (X := []) hoz (by simp))
          have HSZ := Lib.hid (show b < (wr.alloc (.cells #[str m.u.name, str m.u.need, .slice m.at_ m.u.names.length m.cap] 56)).drew.heap.size by have := HLTW.out; simp; omega)
          have HSL := Lib.hid (show wr.heap.size < (wr.alloc (.cells #[str m.u.name, str m.u.need, .slice m.at_ m.u.names.length m.cap] 56)).drew.heap.size by simp)
          clear hl hlz hoz
          have hS : Chg [] (wr.alloc (.cells #[str m.u.name, str m.u.need, .slice m.at_ m.u.names.length m.cap] 56)).drew (wr.alloc (.cells #[str m.u.name, str m.u.need, .slice m.at_ m.u.names.length m.cap] 56)).drew := Chg.refl _ _
          repeat
            (with_reducible show wpX _ _ _ _ _ _ _ _
             first
               | refine wpX_nil ?_
               | refine wpX_skip rfl ?_
               | refine wpX_mv rfl rfl (by kernel_rfl) (fun _ _ => ?_)
               | refine wpX_ldC rfl rfl rfl (by first | exact HZL.out | exact HZO.out) (by assumption) (fun _ _ => ?_)
               | refine wpX_ef' rfl rfl rfl (fun _ _ => ?_)
             go_wp2_with fail)
          refine (HB.out _).mono ?_; rintro _ _ ⟨rfl, hw⟩; have hS := Chg.then (by assumption) hw; have hk := Chg.cells hS HSZ.out (by simp); have hk2 := Chg.cells hS HSL.out (by simp); clear hw
          go_wp2_with fail
          refine And.intro (by assumption : Chg _ _ _) ?_
          repeat
            (with_reducible show wpX _ _ _ _ _ _ _ _
             first
               | refine wpX_nil ?_
               | refine wpX_skip rfl ?_
               | refine wpX_mv rfl rfl (by kernel_rfl) (fun _ _ => ?_)
               | refine wpX_ldC rfl rfl rfl (by first | exact HZL.out | exact HZO.out) (by assumption) (fun _ _ => ?_)
               | refine wpX_ef' rfl rfl rfl (fun _ _ => ?_)
             go_wp2_with fail)
          refine (HCF.out _ (by assumption)).mono ?_; rintro _ _ ⟨rfl, hw⟩; have hS := Chg.then (by assumption) hw; have hk := Chg.cells hS HSZ.out (by simp); have hk2 := Chg.cells hS HSL.out (by simp); clear hw
          go_wp2_with fail
          refine And.intro (by assumption : Chg _ _ _) ?_
          repeat
            (with_reducible show wpX _ _ _ _ _ _ _ _
             first
               | refine wpX_nil ?_
               | refine wpX_skip rfl ?_
               | refine wpX_mv rfl rfl (by kernel_rfl) (fun _ _ => ?_)
               | refine wpX_ldC rfl rfl rfl (by first | exact HZL.out | exact HZO.out) (by assumption) (fun _ _ => ?_)
               | refine wpX_ef' rfl rfl rfl (fun _ _ => ?_)
             go_wp2_with fail)
          · go_roundw
            case rel => exact ⟨k + 1, by omega, by go_num, all_next HX.out TH.out HALL.out, ((HC.out.alloc _).drew).then hS⟩
            case measure => simp [intOf]; omega
      · have hkn : k = o.uses.length := by omega
        have HA_uses := Lib.hid (show o.uses.all (useOK o.name) = true by have := HALL.out; rwa [hkn, List.take_length] at this)
        have HC0 := Lib.hid hc
        have h_0 : wr.cell? ⟨b, off, none⟩ = _ := hc.cellSome H.out.c0 (by simp)
        have h_2 : wr.cell? ⟨b, off + 2, none⟩ = _ := hc.cellSome H.out.c2 (by simp)
        have h_3 : wr.cell? ⟨b, off + 3, none⟩ = _ := hc.cellSome H.out.c3 (by simp)
        have h_4 : wr.cell? ⟨b, off + 4, none⟩ = _ := hc.cellSome H.out.c4 (by simp)
        dsimp only at h_2 h_3 h_4
        clear hc hk hkn HALL
        go_wp2_with fail
        clear h_0 h_2 h_3 h_4 hlt
        go_loopw [9, 161] (fun _ i wr => ∃ k : Nat, k ≤ o.vars.length ∧ i = .int .i64 k ∧ (o.vars.take k).all globOK = true ∧ Chg [] w wr) (fun _ i _ => o.vars.length - (intOf i).toNat)
        case atStart => exact ⟨0, Nat.zero_le _, rfl, by simp, HC0.out⟩
        case round =>
        obtain ⟨k, hk, rfl, hall, hc⟩ := hrel
        have HALL := Lib.hid hall; clear hall
        by_cases hlt : k < o.vars.length
        · obtain ⟨x, hx⟩ : ∃ x, o.vars[k]? = some x := ⟨o.vars[k], by simp [hlt]⟩
          have hat : At w va (o.vars.flatMap GlobD.cells) := H.out.v
          obtain ⟨bb, boff, rfl, hcell⟩ := hat (by rw [flat_len _ 4 (fun _ => rfl)]; omega)
          have hcs : ∀ j, j < 4 → wr.cell? ⟨bb, boff + (k * 4 + j), none⟩ = (GlobD.cells x)[j]? := fun j hj => by
            have h1 := flat_get GlobD.cells 4 (fun _ => rfl) o.vars k j x hx hj
            have h2 : j < (GlobD.cells x).length := hj
            rw [List.getElem?_eq_getElem h2] at h1 ⊢
            exact hc.cellSome (hcell _ _ (by simpa using h1)) (by simp)
          have hc0 : wr.cell? ⟨bb, boff + k * 4, none⟩ = some (str x.name) := hcs 0 (by omega)
          have hc1 : wr.cell? ⟨bb, boff + k * 4 + 1, none⟩ = some (.int .i64 x.place) := by have := hcs 1 (by omega); rw [← Nat.add_assoc] at this; exact this
          have hc2 : wr.cell? ⟨bb, boff + k * 4 + 2, none⟩ = some (.int .i64 x.len) := by have := hcs 2 (by omega); rw [← Nat.add_assoc] at this; exact this
          have hc3 : wr.cell? ⟨bb, boff + k * 4 + 3, none⟩ = some (.bool x.seen) := by have := hcs 3 (by omega); rw [← Nat.add_assoc] at this; exact this
          have hc_0 : wr.cell? ⟨b, off, none⟩ = _ := hc.cellSome H.out.c0 (by simp)
          have hc_6 : wr.cell? ⟨b, off + 6, none⟩ = _ := hc.cellSome H.out.c6 (by simp)
          dsimp only at hc_6
          have hltw : b < wr.heap.size := Nat.lt_of_lt_of_le H.out.blt hc.size
          have HLTW := Lib.hid hltw
          have HX := Lib.hid hx; have HC := Lib.hid hc
          have hb := fun w' => bad_any x.name w' (HS.out.vars.2 x (List.mem_of_getElem? hx))
          clear hcs hcell hx hc hat
          rcases glob_cases x with ⟨t1, th⟩ | ⟨t1, t2, th⟩ | ⟨t1, t2, t3, th⟩ | ⟨t1, t2, t3, t4, th⟩ | ⟨t1, t2, t3, t4, th⟩
          · simp only [t1] at hb
            have HB := Lib.hid hb; have TH := Lib.hid th; clear hb th
            go_wp2_with fail
            refine (HB.out _).mono ?_; rintro _ w2 ⟨rfl, hw⟩
            have hl := (Blk.new wr _ _).kept hw (by simp)
            have HW := Lib.hid hw; clear hw
            have hl0 := hl.cell 0 _ rfl
            have hl1 := hl.cell 1 _ rfl
            have hl2 := hl.cell 2 _ rfl
            have hl3 := hl.cell 3 _ rfl
            go_wp2_with fail
            · go_ret
              rw [parts_no (.inr <| .inr <| .inl <| (all_no HX.out TH.out))]
              exact ⟨rfl, (HC.out.alloc _).then HW.out⟩
          · simp only [t1] at hb
            have HB := Lib.hid hb; have TH := Lib.hid th; clear hb th
            go_wp2_with fail
            refine (HB.out _).mono ?_; rintro _ w2 ⟨rfl, hw⟩
            have hl := (Blk.new wr _ _).kept hw (by simp)
            have HW := Lib.hid hw; clear hw
            have hl0 := hl.cell 0 _ rfl
            have hl1 := hl.cell 1 _ rfl
            have hl2 := hl.cell 2 _ rfl
            have hl3 := hl.cell 3 _ rfl
            go_wp2_with fail
            · go_ret
              rw [parts_no (.inr <| .inr <| .inl <| (all_no HX.out TH.out))]
              exact ⟨rfl, (HC.out.alloc _).then HW.out⟩
          · simp only [t1] at hb
            have HB := Lib.hid hb; have TH := Lib.hid th; clear hb th
            go_wp2_with fail
            refine (HB.out _).mono ?_; rintro _ w2 ⟨rfl, hw⟩
            have hl := (Blk.new wr _ _).kept hw (by simp)
            have HW := Lib.hid hw; clear hw
            have hl0 := hl.cell 0 _ rfl
            have hl1 := hl.cell 1 _ rfl
            have hl2 := hl.cell 2 _ rfl
            have hl3 := hl.cell 3 _ rfl
            go_wp2_with fail
            · go_ret
              rw [parts_no (.inr <| .inr <| .inl <| (all_no HX.out TH.out))]
              exact ⟨rfl, (HC.out.alloc _).then HW.out⟩
          · simp only [t1] at hb
            have HB := Lib.hid hb; have TH := Lib.hid th; clear hb th
            go_wp2_with fail
            refine (HB.out _).mono ?_; rintro _ w2 ⟨rfl, hw⟩
            have hl := (Blk.new wr _ _).kept hw (by simp)
            have HW := Lib.hid hw; clear hw
            have hl0 := hl.cell 0 _ rfl
            have hl1 := hl.cell 1 _ rfl
            have hl2 := hl.cell 2 _ rfl
            have hl3 := hl.cell 3 _ rfl
            go_wp2_with fail
            · go_ret
              rw [parts_no (.inr <| .inr <| .inl <| (all_no HX.out TH.out))]
              exact ⟨rfl, (HC.out.alloc _).then HW.out⟩
          · simp only [t1] at hb
            have HB := Lib.hid hb; have TH := Lib.hid th; clear hb th
            go_wp2_with fail
            refine (HB.out _).mono ?_; rintro _ w2 ⟨rfl, hw⟩
            have hl := (Blk.new wr _ _).kept hw (by simp)
            have HW := Lib.hid hw; clear hw
            have hl0 := hl.cell 0 _ rfl
            have hl1 := hl.cell 1 _ rfl
            have hl2 := hl.cell 2 _ rfl
            have hl3 := hl.cell 3 _ rfl
            go_wp2_with fail
            · go_roundw
              case rel => exact ⟨k + 1, by omega, by go_num, all_next HX.out TH.out HALL.out, (HC.out.alloc _).then HW.out⟩
              case measure => simp [intOf]; omega
        · have hkn : k = o.vars.length := by omega
          have HA_vars := Lib.hid (show o.vars.all globOK = true by have := HALL.out; rwa [hkn, List.take_length] at this)
          have HC0 := Lib.hid hc
          have h_0 : wr.cell? ⟨b, off, none⟩ = _ := hc.cellSome H.out.c0 (by simp)
          have h_2 : wr.cell? ⟨b, off + 2, none⟩ = _ := hc.cellSome H.out.c2 (by simp)
          have h_3 : wr.cell? ⟨b, off + 3, none⟩ = _ := hc.cellSome H.out.c3 (by simp)
          have h_4 : wr.cell? ⟨b, off + 4, none⟩ = _ := hc.cellSome H.out.c4 (by simp)
          dsimp only at h_2 h_3 h_4
          clear hc hk hkn HALL
          go_wp2_with fail
          clear h_0 h_2 h_3 h_4 hlt
          go_loopw [11, 190] (fun _ i wr => ∃ k : Nat, k ≤ o.procs.length ∧ i = .int .i64 k ∧ (o.procs.take k).all (entOK o.code.length) = true ∧ Chg [] w wr) (fun _ i _ => o.procs.length - (intOf i).toNat)
          case atStart => exact ⟨0, Nat.zero_le _, rfl, by simp, HC0.out⟩
          case round =>
          obtain ⟨k, hk, rfl, hall, hc⟩ := hrel
          have HALL := Lib.hid hall; clear hall
          by_cases hlt : k < o.procs.length
          · obtain ⟨x, hx⟩ : ∃ x, o.procs[k]? = some x := ⟨o.procs[k], by simp [hlt]⟩
            have hat : At w pa (o.procs.flatMap EntD.cells) := H.out.p
            obtain ⟨bb, boff, rfl, hcell⟩ := hat (by rw [flat_len _ 3 (fun _ => rfl)]; omega)
            have hcs : ∀ j, j < 3 → wr.cell? ⟨bb, boff + (k * 3 + j), none⟩ = (EntD.cells x)[j]? := fun j hj => by
              have h1 := flat_get EntD.cells 3 (fun _ => rfl) o.procs k j x hx hj
              have h2 : j < (EntD.cells x).length := hj
              rw [List.getElem?_eq_getElem h2] at h1 ⊢
              exact hc.cellSome (hcell _ _ (by simpa using h1)) (by simp)
            have hc0 : wr.cell? ⟨bb, boff + k * 3, none⟩ = some (.int .i64 x.place) := hcs 0 (by omega)
            have hc1 : wr.cell? ⟨bb, boff + k * 3 + 1, none⟩ = some (.int .i64 x.args) := by have := hcs 1 (by omega); rw [← Nat.add_assoc] at this; exact this
            have hc2 : wr.cell? ⟨bb, boff + k * 3 + 2, none⟩ = some (.int .i64 x.locals) := by have := hcs 2 (by omega); rw [← Nat.add_assoc] at this; exact this
            have hc_0 : wr.cell? ⟨b, off, none⟩ = _ := hc.cellSome H.out.c0 (by simp)
            have hc_6 : wr.cell? ⟨b, off + 6, none⟩ = _ := hc.cellSome H.out.c6 (by simp)
            dsimp only at hc_6
            have hltw : b < wr.heap.size := Nat.lt_of_lt_of_le H.out.blt hc.size
            have HLTW := Lib.hid hltw
            have HX := Lib.hid hx; have HC := Lib.hid hc
            clear hcs hcell hx hc hat
            rcases ent_cases o.code.length x with ⟨t1, th⟩ | ⟨t1, t2, th⟩ | ⟨t1, t2, t3, th⟩ | ⟨t1, t2, t3, t4, th⟩ | ⟨t1, t2, t3, t4, t5, th⟩ | ⟨t1, t2, t3, t4, t5, th⟩
            · have TH := Lib.hid th; clear th
              go_wp2_with fail
              refine wp_region_C [] rfl (by kernel_rfl) ?_
              have hl := Blk.new wr #[.int .i64 x.place, .int .i64 x.args, .int .i64 x.locals] 47
              have hlz : (wr.alloc (.cells #[.int .i64 x.place, .int .i64 x.args, .int .i64 x.locals] 47)).drew.cell? ⟨wr.heap.size, 0, none⟩ = _ := hl.cell 0 _ rfl
              have hoz : (wr.alloc (.cells #[.int .i64 x.place, .int .i64 x.args, .int .i64 x.locals] 47)).drew.cell? ⟨b, off, none⟩ = _ := ((Chg.refl [] wr).alloc _).drew.cellSome hc_0 (by simp)
              have HZL := Lib.hid (Zone.of (X := []) hlz (by simp))
              have HZO := Lib.hid (Zone.of (X := []) hoz (by simp))
              clear hl hlz hoz
              have hS : Chg [] (wr.alloc (.cells #[.int .i64 x.place, .int .i64 x.args, .int .i64 x.locals] 47)).drew (wr.alloc (.cells #[.int .i64 x.place, .int .i64 x.args, .int .i64 x.locals] 47)).drew := Chg.refl _ _
              repeat
                (with_reducible show wpX _ _ _ _ _ _ _ _
                 first
                   | refine wpX_nil ?_
                   | refine wpX_skip rfl ?_
                   | refine wpX_mv rfl rfl (by kernel_rfl) (fun _ _ => ?_)
                   | refine wpX_ldC rfl rfl rfl (by first | exact HZL.out | exact HZO.out) (by assumption) (fun _ _ => ?_)
                   | refine wpX_ef' rfl rfl rfl (fun _ _ => ?_)
                 go_wp2_with fail)
              · go_ret
                rw [parts_no (.inr <| .inr <| .inr <| (all_no HX.out TH.out))]
                exact ⟨rfl, ((HC.out.alloc _).drew).then hS⟩
            · have TH := Lib.hid th; clear th
              go_wp2_with fail
              refine wp_region_C [] rfl (by kernel_rfl) ?_
              have hl := Blk.new wr #[.int .i64 x.place, .int .i64 x.args, .int .i64 x.locals] 47
              have hlz : (wr.alloc (.cells #[.int .i64 x.place, .int .i64 x.args, .int .i64 x.locals] 47)).drew.cell? ⟨wr.heap.size, 0, none⟩ = _ := hl.cell 0 _ rfl
              have hoz : (wr.alloc (.cells #[.int .i64 x.place, .int .i64 x.args, .int .i64 x.locals] 47)).drew.cell? ⟨b, off, none⟩ = _ := ((Chg.refl [] wr).alloc _).drew.cellSome hc_0 (by simp)
              have HZL := Lib.hid (Zone.of (X := []) hlz (by simp))
              have HZO := Lib.hid (Zone.of (X := []) hoz (by simp))
              clear hl hlz hoz
              have hS : Chg [] (wr.alloc (.cells #[.int .i64 x.place, .int .i64 x.args, .int .i64 x.locals] 47)).drew (wr.alloc (.cells #[.int .i64 x.place, .int .i64 x.args, .int .i64 x.locals] 47)).drew := Chg.refl _ _
              repeat
                (with_reducible show wpX _ _ _ _ _ _ _ _
                 first
                   | refine wpX_nil ?_
                   | refine wpX_skip rfl ?_
                   | refine wpX_mv rfl rfl (by kernel_rfl) (fun _ _ => ?_)
                   | refine wpX_ldC rfl rfl rfl (by first | exact HZL.out | exact HZO.out) (by assumption) (fun _ _ => ?_)
                   | refine wpX_ef' rfl rfl rfl (fun _ _ => ?_)
                 go_wp2_with fail)
              · go_ret
                rw [parts_no (.inr <| .inr <| .inr <| (all_no HX.out TH.out))]
                exact ⟨rfl, ((HC.out.alloc _).drew).then hS⟩
            · have TH := Lib.hid th; clear th
              go_wp2_with fail
              refine wp_region_C [] rfl (by kernel_rfl) ?_
              have hl := Blk.new wr #[.int .i64 x.place, .int .i64 x.args, .int .i64 x.locals] 47
              have hlz : (wr.alloc (.cells #[.int .i64 x.place, .int .i64 x.args, .int .i64 x.locals] 47)).drew.cell? ⟨wr.heap.size, 0, none⟩ = _ := hl.cell 0 _ rfl
              have hoz : (wr.alloc (.cells #[.int .i64 x.place, .int .i64 x.args, .int .i64 x.locals] 47)).drew.cell? ⟨b, off, none⟩ = _ := ((Chg.refl [] wr).alloc _).drew.cellSome hc_0 (by simp)
              have HZL := Lib.hid (Zone.of (X := []) hlz (by simp))
              have HZO := Lib.hid (Zone.of (X := []) hoz (by simp))
              clear hl hlz hoz
              have hS : Chg [] (wr.alloc (.cells #[.int .i64 x.place, .int .i64 x.args, .int .i64 x.locals] 47)).drew (wr.alloc (.cells #[.int .i64 x.place, .int .i64 x.args, .int .i64 x.locals] 47)).drew := Chg.refl _ _
              repeat
                (with_reducible show wpX _ _ _ _ _ _ _ _
                 first
                   | refine wpX_nil ?_
                   | refine wpX_skip rfl ?_
                   | refine wpX_mv rfl rfl (by kernel_rfl) (fun _ _ => ?_)
                   | refine wpX_ldC rfl rfl rfl (by first | exact HZL.out | exact HZO.out) (by assumption) (fun _ _ => ?_)
                   | refine wpX_ef' rfl rfl rfl (fun _ _ => ?_)
                 go_wp2_with fail)
              · go_ret
                rw [parts_no (.inr <| .inr <| .inr <| (all_no HX.out TH.out))]
                exact ⟨rfl, ((HC.out.alloc _).drew).then hS⟩
            · have TH := Lib.hid th; clear th
              go_wp2_with fail
              refine wp_region_C [] rfl (by kernel_rfl) ?_
              have hl := Blk.new wr #[.int .i64 x.place, .int .i64 x.args, .int .i64 x.locals] 47
              have hlz : (wr.alloc (.cells #[.int .i64 x.place, .int .i64 x.args, .int .i64 x.locals] 47)).drew.cell? ⟨wr.heap.size, 0, none⟩ = _ := hl.cell 0 _ rfl
              have hoz : (wr.alloc (.cells #[.int .i64 x.place, .int .i64 x.args, .int .i64 x.locals] 47)).drew.cell? ⟨b, off, none⟩ = _ := ((Chg.refl [] wr).alloc _).drew.cellSome hc_0 (by simp)
              have HZL := Lib.hid (Zone.of (X := []) hlz (by simp))
              have HZO := Lib.hid (Zone.of (X := []) hoz (by simp))
              clear hl hlz hoz
              have hS : Chg [] (wr.alloc (.cells #[.int .i64 x.place, .int .i64 x.args, .int .i64 x.locals] 47)).drew (wr.alloc (.cells #[.int .i64 x.place, .int .i64 x.args, .int .i64 x.locals] 47)).drew := Chg.refl _ _
              repeat
                (with_reducible show wpX _ _ _ _ _ _ _ _
                 first
                   | refine wpX_nil ?_
                   | refine wpX_skip rfl ?_
                   | refine wpX_mv rfl rfl (by kernel_rfl) (fun _ _ => ?_)
                   | refine wpX_ldC rfl rfl rfl (by first | exact HZL.out | exact HZO.out) (by assumption) (fun _ _ => ?_)
                   | refine wpX_ef' rfl rfl rfl (fun _ _ => ?_)
                 go_wp2_with fail)
              · go_ret
                rw [parts_no (.inr <| .inr <| .inr <| (all_no HX.out TH.out))]
                exact ⟨rfl, ((HC.out.alloc _).drew).then hS⟩
            · have TH := Lib.hid th; clear th
              go_wp2_with fail
              refine wp_region_C [] rfl (by kernel_rfl) ?_
              have hl := Blk.new wr #[.int .i64 x.place, .int .i64 x.args, .int .i64 x.locals] 47
              have hlz : (wr.alloc (.cells #[.int .i64 x.place, .int .i64 x.args, .int .i64 x.locals] 47)).drew.cell? ⟨wr.heap.size, 0, none⟩ = _ := hl.cell 0 _ rfl
              have hoz : (wr.alloc (.cells #[.int .i64 x.place, .int .i64 x.args, .int .i64 x.locals] 47)).drew.cell? ⟨b, off, none⟩ = _ := ((Chg.refl [] wr).alloc _).drew.cellSome hc_0 (by simp)
              have HZL := Lib.hid (Zone.of (X := []) hlz (by simp))
              have HZO := Lib.hid (Zone.of (X := []) hoz (by simp))
              clear hl hlz hoz
              have hS : Chg [] (wr.alloc (.cells #[.int .i64 x.place, .int .i64 x.args, .int .i64 x.locals] 47)).drew (wr.alloc (.cells #[.int .i64 x.place, .int .i64 x.args, .int .i64 x.locals] 47)).drew := Chg.refl _ _
              repeat
                (with_reducible show wpX _ _ _ _ _ _ _ _
                 first
                   | refine wpX_nil ?_
                   | refine wpX_skip rfl ?_
                   | refine wpX_mv rfl rfl (by kernel_rfl) (fun _ _ => ?_)
                   | refine wpX_ldC rfl rfl rfl (by first | exact HZL.out | exact HZO.out) (by assumption) (fun _ _ => ?_)
                   | refine wpX_ef' rfl rfl rfl (fun _ _ => ?_)
                 go_wp2_with fail)
              · go_ret
                rw [parts_no (.inr <| .inr <| .inr <| (all_no HX.out TH.out))]
                exact ⟨rfl, ((HC.out.alloc _).drew).then hS⟩
            · have TH := Lib.hid th; clear th
              go_wp2_with fail
              refine wp_region_C [] rfl (by kernel_rfl) ?_
              have hl := Blk.new wr #[.int .i64 x.place, .int .i64 x.args, .int .i64 x.locals] 47
              have hlz : (wr.alloc (.cells #[.int .i64 x.place, .int .i64 x.args, .int .i64 x.locals] 47)).drew.cell? ⟨wr.heap.size, 0, none⟩ = _ := hl.cell 0 _ rfl
              have hoz : (wr.alloc (.cells #[.int .i64 x.place, .int .i64 x.args, .int .i64 x.locals] 47)).drew.cell? ⟨b, off, none⟩ = _ := ((Chg.refl [] wr).alloc _).drew.cellSome hc_0 (by simp)
              have HZL := Lib.hid (Zone.of (X := []) hlz (by simp))
              have HZO := Lib.hid (Zone.of (X := []) hoz (by simp))
              clear hl hlz hoz
              have hS : Chg [] (wr.alloc (.cells #[.int .i64 x.place, .int .i64 x.args, .int .i64 x.locals] 47)).drew (wr.alloc (.cells #[.int .i64 x.place, .int .i64 x.args, .int .i64 x.locals] 47)).drew := Chg.refl _ _
              repeat
                (with_reducible show wpX _ _ _ _ _ _ _ _
                 first
                   | refine wpX_nil ?_
                   | refine wpX_skip rfl ?_
                   | refine wpX_mv rfl rfl (by kernel_rfl) (fun _ _ => ?_)
                   | refine wpX_ldC rfl rfl rfl (by first | exact HZL.out | exact HZO.out) (by assumption) (fun _ _ => ?_)
                   | refine wpX_ef' rfl rfl rfl (fun _ _ => ?_)
                 go_wp2_with fail)
              · go_roundw
                case rel => exact ⟨k + 1, by omega, by go_num, all_next HX.out TH.out HALL.out, ((HC.out.alloc _).drew).then hS⟩
                case measure => simp [intOf]; omega
          · have hkn : k = o.procs.length := by omega
            have HA_procs := Lib.hid (show o.procs.all (entOK o.code.length) = true by have := HALL.out; rwa [hkn, List.take_length] at this)
            have HC0 := Lib.hid hc
            have h_0 : wr.cell? ⟨b, off, none⟩ = _ := hc.cellSome H.out.c0 (by simp)
            have h_2 : wr.cell? ⟨b, off + 2, none⟩ = _ := hc.cellSome H.out.c2 (by simp)
            have h_3 : wr.cell? ⟨b, off + 3, none⟩ = _ := hc.cellSome H.out.c3 (by simp)
            have h_4 : wr.cell? ⟨b, off + 4, none⟩ = _ := hc.cellSome H.out.c4 (by simp)
            dsimp only at h_2 h_3 h_4
            clear hc hk hkn HALL
            go_wp2_with fail
            clear h_0 h_2 h_3 h_4 hlt
            go_ret
            rw [show partsOK o = true by simp only [partsOK, HTH.out, HA_syms.out, HA_uses.out, HA_vars.out, HA_procs.out, Bool.and_self]]
            exact ⟨rfl, HC0.out⟩
end Go.Proofs.YtjgfclhempjinaaGreatDoor
