/- The document's Right, walked. -/
import Derived.Test.YtjgfclhempjinaaGreatDoorRefInst
import Derived.Test.YtjgfclhempjinaaGreatDoorObjW6
namespace Go.Proofs.YtjgfclhempjinaaGreatDoor
open Go Go.RowKit Go.Mq Go.Mq.Obj

def headR (o : ObjD) : Bool := decide (1 ≤ o.code.length) && decide (o.code.length ≤ 4000) && headOK o
theorem rhead_cases (o : ObjD) : ((!(decide ((1 : Int) ≤ (o.code.length : Int)) && decide ((o.code.length : Int) ≤ 4000))) = true ∧ headR o = false) ∨
    ((!(decide ((1 : Int) ≤ (o.code.length : Int)) && decide ((o.code.length : Int) ≤ 4000))) = false ∧ (!nameOK o.name) = true ∧ headR o = false) ∨
    ((!(decide ((1 : Int) ≤ (o.code.length : Int)) && decide ((o.code.length : Int) ≤ 4000))) = false ∧ (!nameOK o.name) = false ∧ (!o.names.all nameOK) = true ∧ headR o = false) ∨
    ((!(decide ((1 : Int) ≤ (o.code.length : Int)) && decide ((o.code.length : Int) ≤ 4000))) = false ∧ (!nameOK o.name) = false ∧ (!o.names.all nameOK) = false ∧ decide ((20 : Int) < (o.syms.length : Int)) = true ∧ headR o = false) ∨
    ((!(decide ((1 : Int) ≤ (o.code.length : Int)) && decide ((o.code.length : Int) ≤ 4000))) = false ∧ (!nameOK o.name) = false ∧ (!o.names.all nameOK) = false ∧ decide ((20 : Int) < (o.syms.length : Int)) = false ∧ decide ((6 : Int) < (o.uses.length : Int)) = true ∧ headR o = false) ∨
    ((!(decide ((1 : Int) ≤ (o.code.length : Int)) && decide ((o.code.length : Int) ≤ 4000))) = false ∧ (!nameOK o.name) = false ∧ (!o.names.all nameOK) = false ∧ decide ((20 : Int) < (o.syms.length : Int)) = false ∧ decide ((6 : Int) < (o.uses.length : Int)) = false ∧ decide ((10 : Int) < (o.vars.length : Int)) = true ∧ headR o = false) ∨
    ((!(decide ((1 : Int) ≤ (o.code.length : Int)) && decide ((o.code.length : Int) ≤ 4000))) = false ∧ (!nameOK o.name) = false ∧ (!o.names.all nameOK) = false ∧ decide ((20 : Int) < (o.syms.length : Int)) = false ∧ decide ((6 : Int) < (o.uses.length : Int)) = false ∧ decide ((10 : Int) < (o.vars.length : Int)) = false ∧ decide ((10 : Int) < (o.procs.length : Int)) = true ∧ headR o = false) ∨
    ((!(decide ((1 : Int) ≤ (o.code.length : Int)) && decide ((o.code.length : Int) ≤ 4000))) = false ∧ (!nameOK o.name) = false ∧ (!o.names.all nameOK) = false ∧ decide ((20 : Int) < (o.syms.length : Int)) = false ∧ decide ((6 : Int) < (o.uses.length : Int)) = false ∧ decide ((10 : Int) < (o.vars.length : Int)) = false ∧ decide ((10 : Int) < (o.procs.length : Int)) = false ∧ ((o.names.length : Int) != (o.procs.length : Int)) = true ∧ headR o = false) ∨
    ((!(decide ((1 : Int) ≤ (o.code.length : Int)) && decide ((o.code.length : Int) ≤ 4000))) = false ∧ (!nameOK o.name) = false ∧ (!o.names.all nameOK) = false ∧ decide ((20 : Int) < (o.syms.length : Int)) = false ∧ decide ((6 : Int) < (o.uses.length : Int)) = false ∧ decide ((10 : Int) < (o.vars.length : Int)) = false ∧ decide ((10 : Int) < (o.procs.length : Int)) = false ∧ ((o.names.length : Int) != (o.procs.length : Int)) = false ∧ headR o = true) := by
  have e : headR o = (!(!(decide ((1 : Int) ≤ (o.code.length : Int)) && decide ((o.code.length : Int) ≤ 4000))) && !(!nameOK o.name) && !(!o.names.all nameOK) && !decide ((20 : Int) < (o.syms.length : Int)) && !decide ((6 : Int) < (o.uses.length : Int)) && !decide ((10 : Int) < (o.vars.length : Int)) && !decide ((10 : Int) < (o.procs.length : Int)) && !((o.names.length : Int) != (o.procs.length : Int))) := by
    unfold headR headOK
    generalize nameOK o.name = g0
    generalize o.names.all nameOK = g1
    cases g0
    all_goals cases g1
    all_goals (rw [Bool.eq_iff_iff]; simp <;> omega)
  rw [e]
  generalize (!(decide ((1 : Int) ≤ (o.code.length : Int)) && decide ((o.code.length : Int) ≤ 4000))) = b0
  generalize (!nameOK o.name) = b1
  generalize (!o.names.all nameOK) = b2
  generalize decide ((20 : Int) < (o.syms.length : Int)) = b3
  generalize decide ((6 : Int) < (o.uses.length : Int)) = b4
  generalize decide ((10 : Int) < (o.vars.length : Int)) = b5
  generalize decide ((10 : Int) < (o.procs.length : Int)) = b6
  generalize ((o.names.length : Int) != (o.procs.length : Int)) = b7
  clear e; revert b0 b1 b2 b3 b4 b5 b6 b7; decide

theorem rsym_cases0 (x : SymD) (ha : decide ((0 : Int) ≤ x.args) = true) : ((!nameOK x.name) = true ∧ symOK x = false) ∨
    ((!nameOK x.name) = false ∧ (!(decide ((-1 : Int) ≤ x.args) && decide (x.args ≤ 10))) = true ∧ symOK x = false) ∨
    ((!nameOK x.name) = false ∧ (!(decide ((-1 : Int) ≤ x.args) && decide (x.args ≤ 10))) = false ∧ (!(decide ((0 : Int) ≤ x.len) && decide (x.len ≤ 0))) = true ∧ symOK x = false) ∨
    ((!nameOK x.name) = false ∧ (!(decide ((-1 : Int) ≤ x.args) && decide (x.args ≤ 10))) = false ∧ (!(decide ((0 : Int) ≤ x.len) && decide (x.len ≤ 0))) = false ∧ symOK x = true) := by
  have e : symOK x = (!(!nameOK x.name) && !(!(decide ((-1 : Int) ≤ x.args) && decide (x.args ≤ 10))) && !(!(decide ((0 : Int) ≤ x.len) && decide (x.len ≤ 0)))) := by
    have ha' := of_decide_eq_true ha
    unfold symOK
    generalize nameOK x.name = g0
    cases g0
    all_goals (rw [Bool.eq_iff_iff]; simp <;> omega)
  rw [e]
  generalize (!nameOK x.name) = b0
  generalize (!(decide ((-1 : Int) ≤ x.args) && decide (x.args ≤ 10))) = b1
  generalize (!(decide ((0 : Int) ≤ x.len) && decide (x.len ≤ 0))) = b2
  clear e; revert b0 b1 b2; decide

theorem rsym_cases30 (x : SymD) (ha : decide ((0 : Int) ≤ x.args) = false) : ((!nameOK x.name) = true ∧ symOK x = false) ∨
    ((!nameOK x.name) = false ∧ (!(decide ((-1 : Int) ≤ x.args) && decide (x.args ≤ 10))) = true ∧ symOK x = false) ∨
    ((!nameOK x.name) = false ∧ (!(decide ((-1 : Int) ≤ x.args) && decide (x.args ≤ 10))) = false ∧ (!(decide ((0 : Int) ≤ x.len) && decide (x.len ≤ 30))) = true ∧ symOK x = false) ∨
    ((!nameOK x.name) = false ∧ (!(decide ((-1 : Int) ≤ x.args) && decide (x.args ≤ 10))) = false ∧ (!(decide ((0 : Int) ≤ x.len) && decide (x.len ≤ 30))) = false ∧ symOK x = true) := by
  have e : symOK x = (!(!nameOK x.name) && !(!(decide ((-1 : Int) ≤ x.args) && decide (x.args ≤ 10))) && !(!(decide ((0 : Int) ≤ x.len) && decide (x.len ≤ 30)))) := by
    have ha' := of_decide_eq_false ha
    unfold symOK
    generalize nameOK x.name = g0
    cases g0
    all_goals (rw [Bool.eq_iff_iff]; simp <;> omega)
  rw [e]
  generalize (!nameOK x.name) = b0
  generalize (!(decide ((-1 : Int) ≤ x.args) && decide (x.args ≤ 10))) = b1
  generalize (!(decide ((0 : Int) ≤ x.len) && decide (x.len ≤ 30))) = b2
  clear e; revert b0 b1 b2; decide

theorem ruse_cases (own : List UInt8) (x : UseD) : ((!nameOK x.name) = true ∧ useOK own x = false) ∨
    ((!nameOK x.name) = false ∧ (x.name == own) = true ∧ useOK own x = false) ∨
    ((!nameOK x.name) = false ∧ (x.name == own) = false ∧ (!x.names.all nameOK) = true ∧ useOK own x = false) ∨
    ((!nameOK x.name) = false ∧ (x.name == own) = false ∧ (!x.names.all nameOK) = false ∧ decide ((100 : Int) < (x.names.length : Int)) = true ∧ useOK own x = false) ∨
    ((!nameOK x.name) = false ∧ (x.name == own) = false ∧ (!x.names.all nameOK) = false ∧ decide ((100 : Int) < (x.names.length : Int)) = false ∧ decide ((4000 : Int) < (x.need.length : Int)) = true ∧ useOK own x = false) ∨
    ((!nameOK x.name) = false ∧ (x.name == own) = false ∧ (!x.names.all nameOK) = false ∧ decide ((100 : Int) < (x.names.length : Int)) = false ∧ decide ((4000 : Int) < (x.need.length : Int)) = false ∧ useOK own x = true) := by
  have e : useOK own x = (!(!nameOK x.name) && !(x.name == own) && !(!x.names.all nameOK) && !decide ((100 : Int) < (x.names.length : Int)) && !decide ((4000 : Int) < (x.need.length : Int))) := by
    unfold useOK
    generalize nameOK x.name = g0
    generalize x.names.all nameOK = g1
    generalize (x.name == own) = g2
    cases g0
    all_goals cases g1
    all_goals cases g2
    all_goals (rw [Bool.eq_iff_iff]; simp <;> omega)
  rw [e]
  generalize (!nameOK x.name) = b0
  generalize (x.name == own) = b1
  generalize (!x.names.all nameOK) = b2
  generalize decide ((100 : Int) < (x.names.length : Int)) = b3
  generalize decide ((4000 : Int) < (x.need.length : Int)) = b4
  clear e; revert b0 b1 b2 b3 b4; decide

theorem rglob_cases (x : GlobD) : ((!nameOK x.name) = true ∧ globOK x = false) ∨
    ((!nameOK x.name) = false ∧ (x.place != (0 : Int)) = true ∧ globOK x = false) ∨
    ((!nameOK x.name) = false ∧ (x.place != (0 : Int)) = false ∧ (!(decide ((0 : Int) ≤ x.len) && decide (x.len ≤ 30))) = true ∧ globOK x = false) ∨
    ((!nameOK x.name) = false ∧ (x.place != (0 : Int)) = false ∧ (!(decide ((0 : Int) ≤ x.len) && decide (x.len ≤ 30))) = false ∧ globOK x = true) := by
  have e : globOK x = (!(!nameOK x.name) && !(x.place != (0 : Int)) && !(!(decide ((0 : Int) ≤ x.len) && decide (x.len ≤ 30)))) := by
    unfold globOK
    generalize nameOK x.name = g0
    cases g0
    all_goals (rw [Bool.eq_iff_iff]; simp <;> omega)
  rw [e]
  generalize (!nameOK x.name) = b0
  generalize (x.place != (0 : Int)) = b1
  generalize (!(decide ((0 : Int) ≤ x.len) && decide (x.len ≤ 30))) = b2
  clear e; revert b0 b1 b2; decide

theorem rent_cases (n : Nat) (x : EntD) : ((!(decide ((0 : Int) ≤ x.place) && decide (x.place ≤ (n : Int) - 1))) = true ∧ entOK n x = false) ∨
    ((!(decide ((0 : Int) ≤ x.place) && decide (x.place ≤ (n : Int) - 1))) = false ∧ (!(decide ((0 : Int) ≤ x.args) && decide (x.args ≤ 10))) = true ∧ entOK n x = false) ∨
    ((!(decide ((0 : Int) ≤ x.place) && decide (x.place ≤ (n : Int) - 1))) = false ∧ (!(decide ((0 : Int) ≤ x.args) && decide (x.args ≤ 10))) = false ∧ (!(decide (x.args ≤ x.locals) && decide (x.locals ≤ 10))) = true ∧ entOK n x = false) ∨
    ((!(decide ((0 : Int) ≤ x.place) && decide (x.place ≤ (n : Int) - 1))) = false ∧ (!(decide ((0 : Int) ≤ x.args) && decide (x.args ≤ 10))) = false ∧ (!(decide (x.args ≤ x.locals) && decide (x.locals ≤ 10))) = false ∧ entOK n x = true) := by
  have e : entOK n x = (!(!(decide ((0 : Int) ≤ x.place) && decide (x.place ≤ (n : Int) - 1))) && !(!(decide ((0 : Int) ≤ x.args) && decide (x.args ≤ 10))) && !(!(decide (x.args ≤ x.locals) && decide (x.locals ≤ 10)))) := by
    unfold entOK
    all_goals (rw [Bool.eq_iff_iff]; simp <;> omega)
  rw [e]
  generalize (!(decide ((0 : Int) ≤ x.place) && decide (x.place ≤ (n : Int) - 1))) = b0
  generalize (!(decide ((0 : Int) ≤ x.args) && decide (x.args ≤ 10))) = b1
  generalize (!(decide (x.args ≤ x.locals) && decide (x.locals ≤ 10))) = b2
  clear e; revert b0 b1 b2; decide

theorem right_no {o : ObjD} (h : headR o = false ∨ o.syms.all symOK = false ∨ o.uses.all (useOK o.name) = false ∨ o.vars.all globOK = false ∨ o.procs.all (entOK o.code.length) = false ∨ o.code.all (instOK o) = false ∨ lastOK o.code = false) : right o = false := by
  rcases h with h | h | h | h | h | h | h
  · unfold headR at h
    rcases and_no h with h | ⟨_, h⟩
    · rcases and_no h with h | ⟨_, h⟩ <;> simp only [right, h, Bool.and_false, Bool.false_and]
    · rw [right, parts_head h]; simp
  · rw [right, parts_no (.inl h)]; simp
  · rw [right, parts_no (.inr (.inl h))]; simp
  · rw [right, parts_no (.inr (.inr (.inl h)))]; simp
  · rw [right, parts_no (.inr (.inr (.inr h)))]; simp
  · simp only [right, h, Bool.and_false]
  · simp only [right, h, Bool.and_false, Bool.false_and]
theorem right_yes {o : ObjD} (h0 : headR o = true) (h1 : o.syms.all symOK = true) (h2 : o.uses.all (useOK o.name) = true) (h3 : o.vars.all globOK = true) (h4 : o.procs.all (entOK o.code.length) = true) (h5 : o.code.all (instOK o) = true) (h6 : lastOK o.code = true) : right o = true := by
  unfold headR at h0
  simp only [Bool.and_eq_true] at h0
  simp only [right, partsOK, h1, h2, h3, h4, h5, h6, h0.1.1, h0.1.2, h0.2, Bool.and_true]
theorem last_is {l : List InstD} {k : Nat} {x : InstD} (h : l[k]? = some x) (hk : k + 1 = l.length) : lastOK l = (decide (x.op = 12) || decide (x.op = 15) || decide (x.op = 17)) := by
  unfold lastOK
  rw [List.getLast?_eq_getElem?, show l.length - 1 = k from by omega, h]

theorem rnamed_ans (na : Option Addr) (n c : Nat) (l : List (List UInt8)) (w : World) (hn : n = l.length) (hl : n ≤ 1099511627776) (hat : At w na (l.map str)) (hb : ∀ x ∈ l, x.length ≤ 1099511627776) :
    Calls Tryz.prog 30 #[.slice na n c] w (Ans w (.bool (l.all nameOK))) := by
  refine (rnamed_any na n c l w hn hl hat hb).mono ?_
  rintro _ _ ⟨rfl, rfl⟩; exact ⟨rfl, Chg.refl _ _⟩

set_option maxRecDepth 100000 in
theorem rright_nil (w : World) : Calls Tryz.prog 9 #[.pointer none] w (Ans w (.bool false)) := by
  go_enter Tryz.func9, Tryz.ntmps9
  go_wp2_with fail
  refine wp_region_C [] rfl (by kernel_rfl) ?_
  have hS : Chg [] w.drew w.drew := Chg.refl _ _
  repeat
    (with_reducible show wpX _ _ _ _ _ _ _ _
     first
       | refine wpX_nil ?_
       | refine wpX_skip rfl ?_
       | refine wpX_mv rfl rfl (by kernel_rfl) (fun _ _ => ?_)
       | refine wpX_ldC rfl rfl rfl (by fail) (by assumption) (fun _ _ => ?_)
       | refine wpX_ef' rfl rfl rfl (fun _ _ => ?_)
     go_wp2_with fail)
  go_ret
  exact ⟨rfl, (Chg.drew (Chg.refl [] w)).then hS⟩

set_option maxHeartbeats 8000000 in
set_option maxRecDepth 100000 in
theorem rright_any (B b off : Nat) (o : ObjD) (M : ObjM) (w : World) (h : ObjAt w B b off o M) (hs : o.small) :
    Calls Tryz.prog 9 #[.pointer (some ⟨b, off, none⟩)] w (Ans w (.bool (right o))) := by
  obtain ⟨sa, ua, va, pa, na, ca, sc, uc, vc, pc, nc, cc, us⟩ := M
  have hzs : o.syms.length ≤ 1099511627776 := hs.syms.1
  have hzu : o.uses.length ≤ 1099511627776 := hs.uses.1
  have hzv : o.vars.length ≤ 1099511627776 := hs.vars.1
  have hzp : o.procs.length ≤ 1099511627776 := hs.procs
  have hzc : o.code.length ≤ 1099511627776 := hs.code
  have h0 := h.c0
  have h1 := h.c1
  have h2 := h.c2
  have h3 := h.c3
  have h4 := h.c4
  have h5 := h.c5
  have h6 := h.c6
  dsimp only at h1 h2 h3 h4 h5 h6
  have hlt := h.blt
  have HLT := Lib.hid (show b < w.drew.heap.size from hlt)
  have HZ := Lib.hid (Zone.of (X := []) (w0 := w.drew) (off := off) (b := b) h0 (by simp))
  have hB0 := (fun w' => rin_ans (o.code.length : Int) 1 4000 w')
  have hB1 := (fun w' => rname_ans o.name w' hs.name)
  have hB2 := (fun w' (hc : Chg [] w.drew w') => rnamed_ans na o.names.length nc o.names w' rfl hs.names.1 ((h.n.kept (Chg.drew (Chg.refl [] w)) (by simp)).kept hc (by simp)) hs.names.2)
  have H := Lib.hid h
  have HS := Lib.hid hs
  clear h hs hlt
  rcases rhead_cases o with ⟨t1, th⟩ | ⟨t1, t2, th⟩ | ⟨t1, t2, t3, th⟩ | ⟨t1, t2, t3, t4, th⟩ | ⟨t1, t2, t3, t4, t5, th⟩ | ⟨t1, t2, t3, t4, t5, t6, th⟩ | ⟨t1, t2, t3, t4, t5, t6, t7, th⟩ | ⟨t1, t2, t3, t4, t5, t6, t7, t8, th⟩ | ⟨t1, t2, t3, t4, t5, t6, t7, t8, th⟩
  · have HTH := Lib.hid (right_no (.inl th)); clear th
    rw [Bool.not_eq_true'] at t1
    simp only [t1] at hB0
    have HB0 := Lib.hid hB0; have HB1 := Lib.hid hB1; have HB2 := Lib.hid hB2
    clear hB0 hB1 hB2
    go_enter Tryz.func9, Tryz.ntmps9
    go_wp2_with fail
    refine wp_region_C [] rfl (by kernel_rfl) ?_
    have hS : Chg [] w.drew w.drew := Chg.refl _ _
    repeat
      (with_reducible show wpX _ _ _ _ _ _ _ _
       first
         | refine wpX_nil ?_
         | refine wpX_skip rfl ?_
         | refine wpX_mv rfl rfl (by kernel_rfl) (fun _ _ => ?_)
         | refine wpX_ldC rfl rfl rfl (by exact HZ.out) (by assumption) (fun _ _ => ?_)
         | refine wpX_ef' rfl rfl rfl (fun _ _ => ?_)
       go_wp2_with fail)
    refine (HB0.out _).mono ?_; rintro _ _ ⟨rfl, hw⟩; have hS := Chg.then (by assumption) hw; have hk := Chg.cells hS HLT.out (by simp); clear hw
    go_wp2_with fail
    refine And.intro (by assumption : Chg _ _ _) ?_
    repeat
      (with_reducible show wpX _ _ _ _ _ _ _ _
       first
         | refine wpX_nil ?_
         | refine wpX_skip rfl ?_
         | refine wpX_mv rfl rfl (by kernel_rfl) (fun _ _ => ?_)
         | refine wpX_ldC rfl rfl rfl (by exact HZ.out) (by assumption) (fun _ _ => ?_)
         | refine wpX_ef' rfl rfl rfl (fun _ _ => ?_)
       go_wp2_with fail)
    go_ret
    rw [HTH.out]
    exact ⟨rfl, (Chg.drew (Chg.refl [] w)).then (by assumption)⟩
  · have HTH := Lib.hid (right_no (.inl th)); clear th
    rw [Bool.not_eq_false'] at t1
    simp only [t1] at hB0
    rw [Bool.not_eq_true'] at t2
    simp only [t2] at hB1
    have HB0 := Lib.hid hB0; have HB1 := Lib.hid hB1; have HB2 := Lib.hid hB2
    clear hB0 hB1 hB2
    go_enter Tryz.func9, Tryz.ntmps9
    go_wp2_with fail
    refine wp_region_C [] rfl (by kernel_rfl) ?_
    have hS : Chg [] w.drew w.drew := Chg.refl _ _
    repeat
      (with_reducible show wpX _ _ _ _ _ _ _ _
       first
         | refine wpX_nil ?_
         | refine wpX_skip rfl ?_
         | refine wpX_mv rfl rfl (by kernel_rfl) (fun _ _ => ?_)
         | refine wpX_ldC rfl rfl rfl (by exact HZ.out) (by assumption) (fun _ _ => ?_)
         | refine wpX_ef' rfl rfl rfl (fun _ _ => ?_)
       go_wp2_with fail)
    refine (HB0.out _).mono ?_; rintro _ _ ⟨rfl, hw⟩; have hS := Chg.then (by assumption) hw; have hk := Chg.cells hS HLT.out (by simp); clear hw
    go_wp2_with fail
    refine And.intro (by assumption : Chg _ _ _) ?_
    repeat
      (with_reducible show wpX _ _ _ _ _ _ _ _
       first
         | refine wpX_nil ?_
         | refine wpX_skip rfl ?_
         | refine wpX_mv rfl rfl (by kernel_rfl) (fun _ _ => ?_)
         | refine wpX_ldC rfl rfl rfl (by exact HZ.out) (by assumption) (fun _ _ => ?_)
         | refine wpX_ef' rfl rfl rfl (fun _ _ => ?_)
       go_wp2_with fail)
    refine (HB1.out _).mono ?_; rintro _ _ ⟨rfl, hw⟩; have hS := Chg.then (by assumption) hw; have hk := Chg.cells hS HLT.out (by simp); clear hw
    go_wp2_with fail
    refine And.intro (by assumption : Chg _ _ _) ?_
    repeat
      (with_reducible show wpX _ _ _ _ _ _ _ _
       first
         | refine wpX_nil ?_
         | refine wpX_skip rfl ?_
         | refine wpX_mv rfl rfl (by kernel_rfl) (fun _ _ => ?_)
         | refine wpX_ldC rfl rfl rfl (by exact HZ.out) (by assumption) (fun _ _ => ?_)
         | refine wpX_ef' rfl rfl rfl (fun _ _ => ?_)
       go_wp2_with fail)
    go_ret
    rw [HTH.out]
    exact ⟨rfl, (Chg.drew (Chg.refl [] w)).then (by assumption)⟩
  · have HTH := Lib.hid (right_no (.inl th)); clear th
    rw [Bool.not_eq_false'] at t1
    simp only [t1] at hB0
    rw [Bool.not_eq_false'] at t2
    simp only [t2] at hB1
    rw [Bool.not_eq_true'] at t3
    simp only [t3] at hB2
    have HB0 := Lib.hid hB0; have HB1 := Lib.hid hB1; have HB2 := Lib.hid hB2
    clear hB0 hB1 hB2
    go_enter Tryz.func9, Tryz.ntmps9
    go_wp2_with fail
    refine wp_region_C [] rfl (by kernel_rfl) ?_
    have hS : Chg [] w.drew w.drew := Chg.refl _ _
    repeat
      (with_reducible show wpX _ _ _ _ _ _ _ _
       first
         | refine wpX_nil ?_
         | refine wpX_skip rfl ?_
         | refine wpX_mv rfl rfl (by kernel_rfl) (fun _ _ => ?_)
         | refine wpX_ldC rfl rfl rfl (by exact HZ.out) (by assumption) (fun _ _ => ?_)
         | refine wpX_ef' rfl rfl rfl (fun _ _ => ?_)
       go_wp2_with fail)
    refine (HB0.out _).mono ?_; rintro _ _ ⟨rfl, hw⟩; have hS := Chg.then (by assumption) hw; have hk := Chg.cells hS HLT.out (by simp); clear hw
    go_wp2_with fail
    refine And.intro (by assumption : Chg _ _ _) ?_
    repeat
      (with_reducible show wpX _ _ _ _ _ _ _ _
       first
         | refine wpX_nil ?_
         | refine wpX_skip rfl ?_
         | refine wpX_mv rfl rfl (by kernel_rfl) (fun _ _ => ?_)
         | refine wpX_ldC rfl rfl rfl (by exact HZ.out) (by assumption) (fun _ _ => ?_)
         | refine wpX_ef' rfl rfl rfl (fun _ _ => ?_)
       go_wp2_with fail)
    refine (HB1.out _).mono ?_; rintro _ _ ⟨rfl, hw⟩; have hS := Chg.then (by assumption) hw; have hk := Chg.cells hS HLT.out (by simp); clear hw
    go_wp2_with fail
    refine And.intro (by assumption : Chg _ _ _) ?_
    repeat
      (with_reducible show wpX _ _ _ _ _ _ _ _
       first
         | refine wpX_nil ?_
         | refine wpX_skip rfl ?_
         | refine wpX_mv rfl rfl (by kernel_rfl) (fun _ _ => ?_)
         | refine wpX_ldC rfl rfl rfl (by exact HZ.out) (by assumption) (fun _ _ => ?_)
         | refine wpX_ef' rfl rfl rfl (fun _ _ => ?_)
       go_wp2_with fail)
    refine (HB2.out _ (by assumption)).mono ?_; rintro _ _ ⟨rfl, hw⟩; have hS := Chg.then (by assumption) hw; have hk := Chg.cells hS HLT.out (by simp); clear hw
    go_wp2_with fail
    refine And.intro (by assumption : Chg _ _ _) ?_
    repeat
      (with_reducible show wpX _ _ _ _ _ _ _ _
       first
         | refine wpX_nil ?_
         | refine wpX_skip rfl ?_
         | refine wpX_mv rfl rfl (by kernel_rfl) (fun _ _ => ?_)
         | refine wpX_ldC rfl rfl rfl (by exact HZ.out) (by assumption) (fun _ _ => ?_)
         | refine wpX_ef' rfl rfl rfl (fun _ _ => ?_)
       go_wp2_with fail)
    go_ret
    rw [HTH.out]
    exact ⟨rfl, (Chg.drew (Chg.refl [] w)).then (by assumption)⟩
  · have HTH := Lib.hid (right_no (.inl th)); clear th
    rw [Bool.not_eq_false'] at t1
    simp only [t1] at hB0
    rw [Bool.not_eq_false'] at t2
    simp only [t2] at hB1
    rw [Bool.not_eq_false'] at t3
    simp only [t3] at hB2
    have HB0 := Lib.hid hB0; have HB1 := Lib.hid hB1; have HB2 := Lib.hid hB2
    clear hB0 hB1 hB2
    go_enter Tryz.func9, Tryz.ntmps9
    go_wp2_with fail
    refine wp_region_C [] rfl (by kernel_rfl) ?_
    have hS : Chg [] w.drew w.drew := Chg.refl _ _
    repeat
      (with_reducible show wpX _ _ _ _ _ _ _ _
       first
         | refine wpX_nil ?_
         | refine wpX_skip rfl ?_
         | refine wpX_mv rfl rfl (by kernel_rfl) (fun _ _ => ?_)
         | refine wpX_ldC rfl rfl rfl (by exact HZ.out) (by assumption) (fun _ _ => ?_)
         | refine wpX_ef' rfl rfl rfl (fun _ _ => ?_)
       go_wp2_with fail)
    refine (HB0.out _).mono ?_; rintro _ _ ⟨rfl, hw⟩; have hS := Chg.then (by assumption) hw; have hk := Chg.cells hS HLT.out (by simp); clear hw
    go_wp2_with fail
    refine And.intro (by assumption : Chg _ _ _) ?_
    repeat
      (with_reducible show wpX _ _ _ _ _ _ _ _
       first
         | refine wpX_nil ?_
         | refine wpX_skip rfl ?_
         | refine wpX_mv rfl rfl (by kernel_rfl) (fun _ _ => ?_)
         | refine wpX_ldC rfl rfl rfl (by exact HZ.out) (by assumption) (fun _ _ => ?_)
         | refine wpX_ef' rfl rfl rfl (fun _ _ => ?_)
       go_wp2_with fail)
    refine (HB1.out _).mono ?_; rintro _ _ ⟨rfl, hw⟩; have hS := Chg.then (by assumption) hw; have hk := Chg.cells hS HLT.out (by simp); clear hw
    go_wp2_with fail
    refine And.intro (by assumption : Chg _ _ _) ?_
    repeat
      (with_reducible show wpX _ _ _ _ _ _ _ _
       first
         | refine wpX_nil ?_
         | refine wpX_skip rfl ?_
         | refine wpX_mv rfl rfl (by kernel_rfl) (fun _ _ => ?_)
         | refine wpX_ldC rfl rfl rfl (by exact HZ.out) (by assumption) (fun _ _ => ?_)
         | refine wpX_ef' rfl rfl rfl (fun _ _ => ?_)
       go_wp2_with fail)
    refine (HB2.out _ (by assumption)).mono ?_; rintro _ _ ⟨rfl, hw⟩; have hS := Chg.then (by assumption) hw; have hk := Chg.cells hS HLT.out (by simp); clear hw
    go_wp2_with fail
    refine And.intro (by assumption : Chg _ _ _) ?_
    repeat
      (with_reducible show wpX _ _ _ _ _ _ _ _
       first
         | refine wpX_nil ?_
         | refine wpX_skip rfl ?_
         | refine wpX_mv rfl rfl (by kernel_rfl) (fun _ _ => ?_)
         | refine wpX_ldC rfl rfl rfl (by exact HZ.out) (by assumption) (fun _ _ => ?_)
         | refine wpX_ef' rfl rfl rfl (fun _ _ => ?_)
       go_wp2_with fail)
    go_ret
    rw [HTH.out]
    exact ⟨rfl, (Chg.drew (Chg.refl [] w)).then (by assumption)⟩
  · have HTH := Lib.hid (right_no (.inl th)); clear th
    rw [Bool.not_eq_false'] at t1
    simp only [t1] at hB0
    rw [Bool.not_eq_false'] at t2
    simp only [t2] at hB1
    rw [Bool.not_eq_false'] at t3
    simp only [t3] at hB2
    have HB0 := Lib.hid hB0; have HB1 := Lib.hid hB1; have HB2 := Lib.hid hB2
    clear hB0 hB1 hB2
    go_enter Tryz.func9, Tryz.ntmps9
    go_wp2_with fail
    refine wp_region_C [] rfl (by kernel_rfl) ?_
    have hS : Chg [] w.drew w.drew := Chg.refl _ _
    repeat
      (with_reducible show wpX _ _ _ _ _ _ _ _
       first
         | refine wpX_nil ?_
         | refine wpX_skip rfl ?_
         | refine wpX_mv rfl rfl (by kernel_rfl) (fun _ _ => ?_)
         | refine wpX_ldC rfl rfl rfl (by exact HZ.out) (by assumption) (fun _ _ => ?_)
         | refine wpX_ef' rfl rfl rfl (fun _ _ => ?_)
       go_wp2_with fail)
    refine (HB0.out _).mono ?_; rintro _ _ ⟨rfl, hw⟩; have hS := Chg.then (by assumption) hw; have hk := Chg.cells hS HLT.out (by simp); clear hw
    go_wp2_with fail
    refine And.intro (by assumption : Chg _ _ _) ?_
    repeat
      (with_reducible show wpX _ _ _ _ _ _ _ _
       first
         | refine wpX_nil ?_
         | refine wpX_skip rfl ?_
         | refine wpX_mv rfl rfl (by kernel_rfl) (fun _ _ => ?_)
         | refine wpX_ldC rfl rfl rfl (by exact HZ.out) (by assumption) (fun _ _ => ?_)
         | refine wpX_ef' rfl rfl rfl (fun _ _ => ?_)
       go_wp2_with fail)
    refine (HB1.out _).mono ?_; rintro _ _ ⟨rfl, hw⟩; have hS := Chg.then (by assumption) hw; have hk := Chg.cells hS HLT.out (by simp); clear hw
    go_wp2_with fail
    refine And.intro (by assumption : Chg _ _ _) ?_
    repeat
      (with_reducible show wpX _ _ _ _ _ _ _ _
       first
         | refine wpX_nil ?_
         | refine wpX_skip rfl ?_
         | refine wpX_mv rfl rfl (by kernel_rfl) (fun _ _ => ?_)
         | refine wpX_ldC rfl rfl rfl (by exact HZ.out) (by assumption) (fun _ _ => ?_)
         | refine wpX_ef' rfl rfl rfl (fun _ _ => ?_)
       go_wp2_with fail)
    refine (HB2.out _ (by assumption)).mono ?_; rintro _ _ ⟨rfl, hw⟩; have hS := Chg.then (by assumption) hw; have hk := Chg.cells hS HLT.out (by simp); clear hw
    go_wp2_with fail
    refine And.intro (by assumption : Chg _ _ _) ?_
    repeat
      (with_reducible show wpX _ _ _ _ _ _ _ _
       first
         | refine wpX_nil ?_
         | refine wpX_skip rfl ?_
         | refine wpX_mv rfl rfl (by kernel_rfl) (fun _ _ => ?_)
         | refine wpX_ldC rfl rfl rfl (by exact HZ.out) (by assumption) (fun _ _ => ?_)
         | refine wpX_ef' rfl rfl rfl (fun _ _ => ?_)
       go_wp2_with fail)
    go_ret
    rw [HTH.out]
    exact ⟨rfl, (Chg.drew (Chg.refl [] w)).then (by assumption)⟩
  · have HTH := Lib.hid (right_no (.inl th)); clear th
    rw [Bool.not_eq_false'] at t1
    simp only [t1] at hB0
    rw [Bool.not_eq_false'] at t2
    simp only [t2] at hB1
    rw [Bool.not_eq_false'] at t3
    simp only [t3] at hB2
    have HB0 := Lib.hid hB0; have HB1 := Lib.hid hB1; have HB2 := Lib.hid hB2
    clear hB0 hB1 hB2
    go_enter Tryz.func9, Tryz.ntmps9
    go_wp2_with fail
    refine wp_region_C [] rfl (by kernel_rfl) ?_
    have hS : Chg [] w.drew w.drew := Chg.refl _ _
    repeat
      (with_reducible show wpX _ _ _ _ _ _ _ _
       first
         | refine wpX_nil ?_
         | refine wpX_skip rfl ?_
         | refine wpX_mv rfl rfl (by kernel_rfl) (fun _ _ => ?_)
         | refine wpX_ldC rfl rfl rfl (by exact HZ.out) (by assumption) (fun _ _ => ?_)
         | refine wpX_ef' rfl rfl rfl (fun _ _ => ?_)
       go_wp2_with fail)
    refine (HB0.out _).mono ?_; rintro _ _ ⟨rfl, hw⟩; have hS := Chg.then (by assumption) hw; have hk := Chg.cells hS HLT.out (by simp); clear hw
    go_wp2_with fail
    refine And.intro (by assumption : Chg _ _ _) ?_
    repeat
      (with_reducible show wpX _ _ _ _ _ _ _ _
       first
         | refine wpX_nil ?_
         | refine wpX_skip rfl ?_
         | refine wpX_mv rfl rfl (by kernel_rfl) (fun _ _ => ?_)
         | refine wpX_ldC rfl rfl rfl (by exact HZ.out) (by assumption) (fun _ _ => ?_)
         | refine wpX_ef' rfl rfl rfl (fun _ _ => ?_)
       go_wp2_with fail)
    refine (HB1.out _).mono ?_; rintro _ _ ⟨rfl, hw⟩; have hS := Chg.then (by assumption) hw; have hk := Chg.cells hS HLT.out (by simp); clear hw
    go_wp2_with fail
    refine And.intro (by assumption : Chg _ _ _) ?_
    repeat
      (with_reducible show wpX _ _ _ _ _ _ _ _
       first
         | refine wpX_nil ?_
         | refine wpX_skip rfl ?_
         | refine wpX_mv rfl rfl (by kernel_rfl) (fun _ _ => ?_)
         | refine wpX_ldC rfl rfl rfl (by exact HZ.out) (by assumption) (fun _ _ => ?_)
         | refine wpX_ef' rfl rfl rfl (fun _ _ => ?_)
       go_wp2_with fail)
    refine (HB2.out _ (by assumption)).mono ?_; rintro _ _ ⟨rfl, hw⟩; have hS := Chg.then (by assumption) hw; have hk := Chg.cells hS HLT.out (by simp); clear hw
    go_wp2_with fail
    refine And.intro (by assumption : Chg _ _ _) ?_
    repeat
      (with_reducible show wpX _ _ _ _ _ _ _ _
       first
         | refine wpX_nil ?_
         | refine wpX_skip rfl ?_
         | refine wpX_mv rfl rfl (by kernel_rfl) (fun _ _ => ?_)
         | refine wpX_ldC rfl rfl rfl (by exact HZ.out) (by assumption) (fun _ _ => ?_)
         | refine wpX_ef' rfl rfl rfl (fun _ _ => ?_)
       go_wp2_with fail)
    go_ret
    rw [HTH.out]
    exact ⟨rfl, (Chg.drew (Chg.refl [] w)).then (by assumption)⟩
  · have HTH := Lib.hid (right_no (.inl th)); clear th
    rw [Bool.not_eq_false'] at t1
    simp only [t1] at hB0
    rw [Bool.not_eq_false'] at t2
    simp only [t2] at hB1
    rw [Bool.not_eq_false'] at t3
    simp only [t3] at hB2
    have HB0 := Lib.hid hB0; have HB1 := Lib.hid hB1; have HB2 := Lib.hid hB2
    clear hB0 hB1 hB2
    go_enter Tryz.func9, Tryz.ntmps9
    go_wp2_with fail
    refine wp_region_C [] rfl (by kernel_rfl) ?_
    have hS : Chg [] w.drew w.drew := Chg.refl _ _
    repeat
      (with_reducible show wpX _ _ _ _ _ _ _ _
       first
         | refine wpX_nil ?_
         | refine wpX_skip rfl ?_
         | refine wpX_mv rfl rfl (by kernel_rfl) (fun _ _ => ?_)
         | refine wpX_ldC rfl rfl rfl (by exact HZ.out) (by assumption) (fun _ _ => ?_)
         | refine wpX_ef' rfl rfl rfl (fun _ _ => ?_)
       go_wp2_with fail)
    refine (HB0.out _).mono ?_; rintro _ _ ⟨rfl, hw⟩; have hS := Chg.then (by assumption) hw; have hk := Chg.cells hS HLT.out (by simp); clear hw
    go_wp2_with fail
    refine And.intro (by assumption : Chg _ _ _) ?_
    repeat
      (with_reducible show wpX _ _ _ _ _ _ _ _
       first
         | refine wpX_nil ?_
         | refine wpX_skip rfl ?_
         | refine wpX_mv rfl rfl (by kernel_rfl) (fun _ _ => ?_)
         | refine wpX_ldC rfl rfl rfl (by exact HZ.out) (by assumption) (fun _ _ => ?_)
         | refine wpX_ef' rfl rfl rfl (fun _ _ => ?_)
       go_wp2_with fail)
    refine (HB1.out _).mono ?_; rintro _ _ ⟨rfl, hw⟩; have hS := Chg.then (by assumption) hw; have hk := Chg.cells hS HLT.out (by simp); clear hw
    go_wp2_with fail
    refine And.intro (by assumption : Chg _ _ _) ?_
    repeat
      (with_reducible show wpX _ _ _ _ _ _ _ _
       first
         | refine wpX_nil ?_
         | refine wpX_skip rfl ?_
         | refine wpX_mv rfl rfl (by kernel_rfl) (fun _ _ => ?_)
         | refine wpX_ldC rfl rfl rfl (by exact HZ.out) (by assumption) (fun _ _ => ?_)
         | refine wpX_ef' rfl rfl rfl (fun _ _ => ?_)
       go_wp2_with fail)
    refine (HB2.out _ (by assumption)).mono ?_; rintro _ _ ⟨rfl, hw⟩; have hS := Chg.then (by assumption) hw; have hk := Chg.cells hS HLT.out (by simp); clear hw
    go_wp2_with fail
    refine And.intro (by assumption : Chg _ _ _) ?_
    repeat
      (with_reducible show wpX _ _ _ _ _ _ _ _
       first
         | refine wpX_nil ?_
         | refine wpX_skip rfl ?_
         | refine wpX_mv rfl rfl (by kernel_rfl) (fun _ _ => ?_)
         | refine wpX_ldC rfl rfl rfl (by exact HZ.out) (by assumption) (fun _ _ => ?_)
         | refine wpX_ef' rfl rfl rfl (fun _ _ => ?_)
       go_wp2_with fail)
    go_ret
    rw [HTH.out]
    exact ⟨rfl, (Chg.drew (Chg.refl [] w)).then (by assumption)⟩
  · have HTH := Lib.hid (right_no (.inl th)); clear th
    rw [Bool.not_eq_false'] at t1
    simp only [t1] at hB0
    rw [Bool.not_eq_false'] at t2
    simp only [t2] at hB1
    rw [Bool.not_eq_false'] at t3
    simp only [t3] at hB2
    have HB0 := Lib.hid hB0; have HB1 := Lib.hid hB1; have HB2 := Lib.hid hB2
    clear hB0 hB1 hB2
    go_enter Tryz.func9, Tryz.ntmps9
    go_wp2_with fail
    refine wp_region_C [] rfl (by kernel_rfl) ?_
    have hS : Chg [] w.drew w.drew := Chg.refl _ _
    repeat
      (with_reducible show wpX _ _ _ _ _ _ _ _
       first
         | refine wpX_nil ?_
         | refine wpX_skip rfl ?_
         | refine wpX_mv rfl rfl (by kernel_rfl) (fun _ _ => ?_)
         | refine wpX_ldC rfl rfl rfl (by exact HZ.out) (by assumption) (fun _ _ => ?_)
         | refine wpX_ef' rfl rfl rfl (fun _ _ => ?_)
       go_wp2_with fail)
    refine (HB0.out _).mono ?_; rintro _ _ ⟨rfl, hw⟩; have hS := Chg.then (by assumption) hw; have hk := Chg.cells hS HLT.out (by simp); clear hw
    go_wp2_with fail
    refine And.intro (by assumption : Chg _ _ _) ?_
    repeat
      (with_reducible show wpX _ _ _ _ _ _ _ _
       first
         | refine wpX_nil ?_
         | refine wpX_skip rfl ?_
         | refine wpX_mv rfl rfl (by kernel_rfl) (fun _ _ => ?_)
         | refine wpX_ldC rfl rfl rfl (by exact HZ.out) (by assumption) (fun _ _ => ?_)
         | refine wpX_ef' rfl rfl rfl (fun _ _ => ?_)
       go_wp2_with fail)
    refine (HB1.out _).mono ?_; rintro _ _ ⟨rfl, hw⟩; have hS := Chg.then (by assumption) hw; have hk := Chg.cells hS HLT.out (by simp); clear hw
    go_wp2_with fail
    refine And.intro (by assumption : Chg _ _ _) ?_
    repeat
      (with_reducible show wpX _ _ _ _ _ _ _ _
       first
         | refine wpX_nil ?_
         | refine wpX_skip rfl ?_
         | refine wpX_mv rfl rfl (by kernel_rfl) (fun _ _ => ?_)
         | refine wpX_ldC rfl rfl rfl (by exact HZ.out) (by assumption) (fun _ _ => ?_)
         | refine wpX_ef' rfl rfl rfl (fun _ _ => ?_)
       go_wp2_with fail)
    refine (HB2.out _ (by assumption)).mono ?_; rintro _ _ ⟨rfl, hw⟩; have hS := Chg.then (by assumption) hw; have hk := Chg.cells hS HLT.out (by simp); clear hw
    go_wp2_with fail
    refine And.intro (by assumption : Chg _ _ _) ?_
    repeat
      (with_reducible show wpX _ _ _ _ _ _ _ _
       first
         | refine wpX_nil ?_
         | refine wpX_skip rfl ?_
         | refine wpX_mv rfl rfl (by kernel_rfl) (fun _ _ => ?_)
         | refine wpX_ldC rfl rfl rfl (by exact HZ.out) (by assumption) (fun _ _ => ?_)
         | refine wpX_ef' rfl rfl rfl (fun _ _ => ?_)
       go_wp2_with fail)
    go_ret
    rw [HTH.out]
    exact ⟨rfl, (Chg.drew (Chg.refl [] w)).then (by assumption)⟩
  · have HTH := Lib.hid th; clear th
    rw [Bool.not_eq_false'] at t1
    simp only [t1] at hB0
    rw [Bool.not_eq_false'] at t2
    simp only [t2] at hB1
    rw [Bool.not_eq_false'] at t3
    simp only [t3] at hB2
    have HB0 := Lib.hid hB0; have HB1 := Lib.hid hB1; have HB2 := Lib.hid hB2
    clear hB0 hB1 hB2
    go_enter Tryz.func9, Tryz.ntmps9
    go_wp2_with fail
    refine wp_region_C [] rfl (by kernel_rfl) ?_
    have hS : Chg [] w.drew w.drew := Chg.refl _ _
    repeat
      (with_reducible show wpX _ _ _ _ _ _ _ _
       first
         | refine wpX_nil ?_
         | refine wpX_skip rfl ?_
         | refine wpX_mv rfl rfl (by kernel_rfl) (fun _ _ => ?_)
         | refine wpX_ldC rfl rfl rfl (by exact HZ.out) (by assumption) (fun _ _ => ?_)
         | refine wpX_ef' rfl rfl rfl (fun _ _ => ?_)
       go_wp2_with fail)
    refine (HB0.out _).mono ?_; rintro _ _ ⟨rfl, hw⟩; have hS := Chg.then (by assumption) hw; have hk := Chg.cells hS HLT.out (by simp); clear hw
    go_wp2_with fail
    refine And.intro (by assumption : Chg _ _ _) ?_
    repeat
      (with_reducible show wpX _ _ _ _ _ _ _ _
       first
         | refine wpX_nil ?_
         | refine wpX_skip rfl ?_
         | refine wpX_mv rfl rfl (by kernel_rfl) (fun _ _ => ?_)
         | refine wpX_ldC rfl rfl rfl (by exact HZ.out) (by assumption) (fun _ _ => ?_)
         | refine wpX_ef' rfl rfl rfl (fun _ _ => ?_)
       go_wp2_with fail)
    refine (HB1.out _).mono ?_; rintro _ _ ⟨rfl, hw⟩; have hS := Chg.then (by assumption) hw; have hk := Chg.cells hS HLT.out (by simp); clear hw
    go_wp2_with fail
    refine And.intro (by assumption : Chg _ _ _) ?_
    repeat
      (with_reducible show wpX _ _ _ _ _ _ _ _
       first
         | refine wpX_nil ?_
         | refine wpX_skip rfl ?_
         | refine wpX_mv rfl rfl (by kernel_rfl) (fun _ _ => ?_)
         | refine wpX_ldC rfl rfl rfl (by exact HZ.out) (by assumption) (fun _ _ => ?_)
         | refine wpX_ef' rfl rfl rfl (fun _ _ => ?_)
       go_wp2_with fail)
    refine (HB2.out _ (by assumption)).mono ?_; rintro _ _ ⟨rfl, hw⟩; have hS := Chg.then (by assumption) hw; have hk := Chg.cells hS HLT.out (by simp); clear hw
    go_wp2_with fail
    refine And.intro (by assumption : Chg _ _ _) ?_
    repeat
      (with_reducible show wpX _ _ _ _ _ _ _ _
       first
         | refine wpX_nil ?_
         | refine wpX_skip rfl ?_
         | refine wpX_mv rfl rfl (by kernel_rfl) (fun _ _ => ?_)
         | refine wpX_ldC rfl rfl rfl (by exact HZ.out) (by assumption) (fun _ _ => ?_)
         | refine wpX_ef' rfl rfl rfl (fun _ _ => ?_)
       go_wp2_with fail)
    have hcl : 1 ≤ o.code.length ∧ o.code.length ≤ 4000 := by simp only [Bool.and_eq_true, decide_eq_true_eq] at t1; omega
    have HC0 := Lib.hid ((Chg.drew (Chg.refl [] w)).then hS)
    clear hk hS h0 h1 h2 h3 h4 h5 h6 t1 t2 t3 t4 t5 t6 t7 t8
    go_loopw [4, 5, 91] (fun _ _ i wr => ∃ k : Nat, k ≤ o.syms.length ∧ i = .int .i64 k ∧ (o.syms.take k).all symOK = true ∧ Chg [] w wr) (fun _ _ i _ => o.syms.length - (intOf i).toNat)
    case atStart => exact ⟨0, Nat.zero_le _, rfl, by simp, HC0.out⟩
    case round =>
    obtain ⟨k, hk, rfl, hall, hc⟩ := hrel
    have HALL := Lib.hid hall; clear hall
    by_cases hlt : k < o.syms.length
    · obtain ⟨x, hx⟩ : ∃ x, o.syms[k]? = some x := ⟨o.syms[k], by simp [hlt]⟩
      have hat : At w sa (o.syms.flatMap SymD.cells) := H.out.s
      obtain ⟨bb, boff, rfl, hcell⟩ := hat (by rw [flat_len _ 3 (fun _ => rfl)]; omega)
      have hcs : ∀ j, j < 3 → wr.cell? ⟨bb, boff + (k * 3 + j), none⟩ = (SymD.cells x)[j]? := fun j hj => by
        have h1 := flat_get SymD.cells 3 (fun _ => rfl) o.syms k j x hx hj
        have h2 : j < (SymD.cells x).length := hj
        rw [List.getElem?_eq_getElem h2] at h1 ⊢
        exact hc.cellSome (hcell _ _ (by simpa using h1)) (by simp)
      have hc0 : wr.cell? ⟨bb, boff + k * 3, none⟩ = some (str x.name) := hcs 0 (by omega)
      have hc1 : wr.cell? ⟨bb, boff + k * 3 + 1, none⟩ = some (.int .i64 x.len) := by have := hcs 1 (by omega); rw [← Nat.add_assoc] at this; exact this
      have hc2 : wr.cell? ⟨bb, boff + k * 3 + 2, none⟩ = some (.int .i64 x.args) := by have := hcs 2 (by omega); rw [← Nat.add_assoc] at this; exact this
      have hc_0 : wr.cell? ⟨b, off, none⟩ = _ := hc.cellSome H.out.c0 (by simp)
      have hc_6 : wr.cell? ⟨b, off + 6, none⟩ = _ := hc.cellSome H.out.c6 (by simp)
      dsimp only at hc_6
      have hltw : b < wr.heap.size := Nat.lt_of_lt_of_le H.out.blt hc.size
      have HLTW := Lib.hid hltw
      have HX := Lib.hid hx; have HC := Lib.hid hc
      have hb1 := fun w' => rname_any x.name w' (by have := HS.out.syms.2 x (List.mem_of_getElem? hx); omega)
      clear hcs hcell hx hc hat
      cases ha : decide ((0 : Int) ≤ x.args)
      · have hb2 := fun w' => rin_any x.args (-1) 10 w'
        have hb3 := fun w' => rin_any x.len 0 30 w'
        rcases rsym_cases30 x ha with ⟨t1, th⟩ | ⟨t1, t2, th⟩ | ⟨t1, t2, t3, th⟩ | ⟨t1, t2, t3, th⟩
        · skip
          rw [Bool.not_eq_true'] at t1
          simp only [t1] at hb1
          have HB1 := Lib.hid hb1; have HB2 := Lib.hid hb2; have HB3 := Lib.hid hb3; have TH := Lib.hid th; clear hb1 hb2 hb3 th
          go_wp2_with fail
          refine (HB1.out _).mono ?_; rintro _ _ ⟨rfl, rfl⟩
          go_wp2_with fail
          go_ret
          rw [right_no (.inr <| .inl <| (all_no HX.out TH.out))]
          exact ⟨rfl, HC.out.alloc _⟩
        · skip
          rw [Bool.not_eq_false'] at t1
          simp only [t1] at hb1
          rw [Bool.not_eq_true'] at t2
          simp only [t2] at hb2
          have HB1 := Lib.hid hb1; have HB2 := Lib.hid hb2; have HB3 := Lib.hid hb3; have TH := Lib.hid th; clear hb1 hb2 hb3 th
          go_wp2_with fail
          refine (HB1.out _).mono ?_; rintro _ _ ⟨rfl, rfl⟩
          go_wp2_with fail
          refine (HB2.out _).mono ?_; rintro _ _ ⟨rfl, rfl⟩
          go_wp2_with fail
          go_ret
          rw [right_no (.inr <| .inl <| (all_no HX.out TH.out))]
          exact ⟨rfl, HC.out.alloc _⟩
        · skip
          rw [Bool.not_eq_false'] at t1
          simp only [t1] at hb1
          rw [Bool.not_eq_false'] at t2
          simp only [t2] at hb2
          rw [Bool.not_eq_true'] at t3
          simp only [t3] at hb3
          have HB1 := Lib.hid hb1; have HB2 := Lib.hid hb2; have HB3 := Lib.hid hb3; have TH := Lib.hid th; clear hb1 hb2 hb3 th
          go_wp2_with fail
          refine (HB1.out _).mono ?_; rintro _ _ ⟨rfl, rfl⟩
          go_wp2_with fail
          refine (HB2.out _).mono ?_; rintro _ _ ⟨rfl, rfl⟩
          go_wp2_with fail
          refine (HB3.out _).mono ?_; rintro _ _ ⟨rfl, rfl⟩
          go_wp2_with fail
          go_ret
          rw [right_no (.inr <| .inl <| (all_no HX.out TH.out))]
          exact ⟨rfl, HC.out.alloc _⟩
        · skip
          rw [Bool.not_eq_false'] at t1
          simp only [t1] at hb1
          rw [Bool.not_eq_false'] at t2
          simp only [t2] at hb2
          rw [Bool.not_eq_false'] at t3
          simp only [t3] at hb3
          have HB1 := Lib.hid hb1; have HB2 := Lib.hid hb2; have HB3 := Lib.hid hb3; have TH := Lib.hid th; clear hb1 hb2 hb3 th
          go_wp2_with fail
          refine (HB1.out _).mono ?_; rintro _ _ ⟨rfl, rfl⟩
          go_wp2_with fail
          refine (HB2.out _).mono ?_; rintro _ _ ⟨rfl, rfl⟩
          go_wp2_with fail
          refine (HB3.out _).mono ?_; rintro _ _ ⟨rfl, rfl⟩
          go_wp2_with fail
          go_roundw
          case rel => exact ⟨k + 1, by omega, by go_num, all_next HX.out TH.out HALL.out, HC.out.alloc _⟩
          case measure => simp [intOf]; omega
      · have hb2 := fun w' => rin_any x.args (-1) 10 w'
        have hb3 := fun w' => rin_any x.len 0 0 w'
        rcases rsym_cases0 x ha with ⟨t1, th⟩ | ⟨t1, t2, th⟩ | ⟨t1, t2, t3, th⟩ | ⟨t1, t2, t3, th⟩
        · skip
          rw [Bool.not_eq_true'] at t1
          simp only [t1] at hb1
          have HB1 := Lib.hid hb1; have HB2 := Lib.hid hb2; have HB3 := Lib.hid hb3; have TH := Lib.hid th; clear hb1 hb2 hb3 th
          go_wp2_with fail
          refine (HB1.out _).mono ?_; rintro _ _ ⟨rfl, rfl⟩
          go_wp2_with fail
          go_ret
          rw [right_no (.inr <| .inl <| (all_no HX.out TH.out))]
          exact ⟨rfl, HC.out.alloc _⟩
        · skip
          rw [Bool.not_eq_false'] at t1
          simp only [t1] at hb1
          rw [Bool.not_eq_true'] at t2
          simp only [t2] at hb2
          have HB1 := Lib.hid hb1; have HB2 := Lib.hid hb2; have HB3 := Lib.hid hb3; have TH := Lib.hid th; clear hb1 hb2 hb3 th
          go_wp2_with fail
          refine (HB1.out _).mono ?_; rintro _ _ ⟨rfl, rfl⟩
          go_wp2_with fail
          refine (HB2.out _).mono ?_; rintro _ _ ⟨rfl, rfl⟩
          go_wp2_with fail
          go_ret
          rw [right_no (.inr <| .inl <| (all_no HX.out TH.out))]
          exact ⟨rfl, HC.out.alloc _⟩
        · skip
          rw [Bool.not_eq_false'] at t1
          simp only [t1] at hb1
          rw [Bool.not_eq_false'] at t2
          simp only [t2] at hb2
          rw [Bool.not_eq_true'] at t3
          simp only [t3] at hb3
          have HB1 := Lib.hid hb1; have HB2 := Lib.hid hb2; have HB3 := Lib.hid hb3; have TH := Lib.hid th; clear hb1 hb2 hb3 th
          go_wp2_with fail
          refine (HB1.out _).mono ?_; rintro _ _ ⟨rfl, rfl⟩
          go_wp2_with fail
          refine (HB2.out _).mono ?_; rintro _ _ ⟨rfl, rfl⟩
          go_wp2_with fail
          refine (HB3.out _).mono ?_; rintro _ _ ⟨rfl, rfl⟩
          go_wp2_with fail
          go_ret
          rw [right_no (.inr <| .inl <| (all_no HX.out TH.out))]
          exact ⟨rfl, HC.out.alloc _⟩
        · skip
          rw [Bool.not_eq_false'] at t1
          simp only [t1] at hb1
          rw [Bool.not_eq_false'] at t2
          simp only [t2] at hb2
          rw [Bool.not_eq_false'] at t3
          simp only [t3] at hb3
          have HB1 := Lib.hid hb1; have HB2 := Lib.hid hb2; have HB3 := Lib.hid hb3; have TH := Lib.hid th; clear hb1 hb2 hb3 th
          go_wp2_with fail
          refine (HB1.out _).mono ?_; rintro _ _ ⟨rfl, rfl⟩
          go_wp2_with fail
          refine (HB2.out _).mono ?_; rintro _ _ ⟨rfl, rfl⟩
          go_wp2_with fail
          refine (HB3.out _).mono ?_; rintro _ _ ⟨rfl, rfl⟩
          go_wp2_with fail
          go_roundw
          case rel => exact ⟨k + 1, by omega, by go_num, all_next HX.out TH.out HALL.out, HC.out.alloc _⟩
          case measure => simp [intOf]; omega
    · have hkn : k = o.syms.length := by omega
      have HA_syms := Lib.hid (show o.syms.all symOK = true by have := HALL.out; rwa [hkn, List.take_length] at this)
      have HC0 := Lib.hid hc
      have h_2 : wr.cell? ⟨b, off + 2, none⟩ = _ := hc.cellSome H.out.c2 (by simp)
      have h_3 : wr.cell? ⟨b, off + 3, none⟩ = _ := hc.cellSome H.out.c3 (by simp)
      have h_4 : wr.cell? ⟨b, off + 4, none⟩ = _ := hc.cellSome H.out.c4 (by simp)
      have h_6 : wr.cell? ⟨b, off + 6, none⟩ = _ := hc.cellSome H.out.c6 (by simp)
      dsimp only at h_2 h_3 h_4 h_6
      clear hc hk hkn HALL
      go_wp2_with fail
      clear h_2 h_3 h_4 h_6 hlt
      go_loopw [7, 121] (fun _ i wr => ∃ k : Nat, k ≤ o.uses.length ∧ i = .int .i64 k ∧ (o.uses.take k).all (useOK o.name) = true ∧ Chg [] w wr) (fun _ i _ => o.uses.length - (intOf i).toNat)
      case atStart => exact ⟨0, Nat.zero_le _, rfl, by simp, HC0.out⟩
      case round =>
      obtain ⟨k, hk, rfl, hall, hc⟩ := hrel
      have HALL := Lib.hid hall; clear hall
      by_cases hlt : k < o.uses.length
      · have hus : us.map (·.u) = o.uses := H.out.us
        obtain ⟨m, hm⟩ : ∃ m, us[k]? = some m := by
          have : us.length = o.uses.length := by rw [← hus, List.length_map]
          exact ⟨us[k], by simp [this, hlt]⟩
        have hx : o.uses[k]? = some m.u := by rw [← hus, List.getElem?_map, hm]; rfl
        have hul : us.length = o.uses.length := by rw [← hus, List.length_map]
        have hat : At w ua (us.flatMap UseM.cells) := H.out.u
        obtain ⟨bb, boff, rfl, hcell⟩ := hat (by rw [flat_len _ 3 (fun _ => rfl)]; omega)
        have hcs : ∀ j, j < 3 → wr.cell? ⟨bb, boff + (k * 3 + j), none⟩ = (UseM.cells m)[j]? := fun j hj => by
          have h1 := flat_get UseM.cells 3 (fun _ => rfl) us k j m hm hj
          have h2 : j < (UseM.cells m).length := hj
          rw [List.getElem?_eq_getElem h2] at h1 ⊢
          exact hc.cellSome (hcell _ _ (by simpa using h1)) (by simp)
        have hc0 : wr.cell? ⟨bb, boff + k * 3, none⟩ = some (str m.u.name) := hcs 0 (by omega)
        have hc1 : wr.cell? ⟨bb, boff + k * 3 + 1, none⟩ = some (str m.u.need) := by have := hcs 1 (by omega); rw [← Nat.add_assoc] at this; exact this
        have hc2 : wr.cell? ⟨bb, boff + k * 3 + 2, none⟩ = some (.slice m.at_ m.u.names.length m.cap) := by have := hcs 2 (by omega); rw [← Nat.add_assoc] at this; exact this
        have hc_0 : wr.cell? ⟨b, off, none⟩ = _ := hc.cellSome H.out.c0 (by simp)
        have hc_6 : wr.cell? ⟨b, off + 6, none⟩ = _ := hc.cellSome H.out.c6 (by simp)
        dsimp only at hc_6
        have hltw : b < wr.heap.size := Nat.lt_of_lt_of_le H.out.blt hc.size
        have HLTW := Lib.hid hltw
        have HX := Lib.hid hx; have HC := Lib.hid hc
        have hb1 := fun w' => rname_ans m.u.name w' (HS.out.uses.2 m.u (List.mem_of_getElem? hx)).1
        have hun := H.out.un m (List.mem_of_getElem? hm)
        have hnl : m.u.names.length ≤ 1099511627776 := (HS.out.uses.2 m.u (List.mem_of_getElem? hx)).2.2.1
        have hdl : m.u.need.length ≤ 1099511627776 := (HS.out.uses.2 m.u (List.mem_of_getElem? hx)).2.1
        have hb2 := (fun w' (hc' : Chg [] (wr.alloc (.cells #[str m.u.name, str m.u.need, .slice m.at_ m.u.names.length m.cap] 56)).drew w') => rnamed_ans m.at_ m.u.names.length m.cap m.u.names w' rfl hnl (((hun.1.kept (hc.alloc (.cells #[str m.u.name, str m.u.need, .slice m.at_ m.u.names.length m.cap] 56)).drew (by simp)).kept hc' (by simp))) (HS.out.uses.2 m.u (List.mem_of_getElem? hx)).2.2.2)
        clear hun hm hus hul
        clear hcs hcell hx hc hat
        rcases ruse_cases o.name m.u with ⟨t1, th⟩ | ⟨t1, t2, th⟩ | ⟨t1, t2, t3, th⟩ | ⟨t1, t2, t3, t4, th⟩ | ⟨t1, t2, t3, t4, t5, th⟩ | ⟨t1, t2, t3, t4, t5, th⟩
        · skip
          rw [Bool.not_eq_true'] at t1
          simp only [t1] at hb1
          have HB1 := Lib.hid hb1; have HB2 := Lib.hid hb2; have TH := Lib.hid th; clear hb1 hb2 th
          go_wp2_with fail
          refine wp_region_C [] rfl (by kernel_rfl) ?_
          have hl := Blk.new wr #[str m.u.name, str m.u.need, .slice m.at_ m.u.names.length m.cap] 56
          have hlz : (wr.alloc (.cells #[str m.u.name, str m.u.need, .slice m.at_ m.u.names.length m.cap] 56)).drew.cell? ⟨wr.heap.size, 0, none⟩ = _ := hl.cell 0 _ rfl
          have hoz : (wr.alloc (.cells #[str m.u.name, str m.u.need, .slice m.at_ m.u.names.length m.cap] 56)).drew.cell? ⟨b, off, none⟩ = _ := ((Chg.refl [] wr).alloc _).drew.cellSome hc_0 (by simp)
          have HZL := Lib.hid (Zone.of (X := []) hlz (by simp))
          have HZO := Lib.hid (Zone.of (X := []) hoz (by simp))
          have HSZ := Lib.hid (show b < (wr.alloc (.cells #[str m.u.name, str m.u.need, .slice m.at_ m.u.names.length m.cap] 56)).drew.heap.size by have := HLTW.out; simp; omega)
          have HSL := Lib.hid (show wr.heap.size < (wr.alloc (.cells #[str m.u.name, str m.u.need, .slice m.at_ m.u.names.length m.cap] 56)).drew.heap.size by simp)
          clear hl hlz hoz
          have hS : Chg [] (wr.alloc (.cells #[str m.u.name, str m.u.need, .slice m.at_ m.u.names.length m.cap] 56)).drew (wr.alloc (.cells #[str m.u.name, str m.u.need, .slice m.at_ m.u.names.length m.cap] 56)).drew := Chg.refl _ _
          repeat
            (with_reducible show wpX _ _ _ _ _ _ _ _
             first
               | refine wpX_nil ?_
               | refine wpX_skip rfl ?_
               | refine wpX_mv rfl rfl (by kernel_rfl) (fun _ _ => ?_)
               | refine wpX_ldC rfl rfl rfl (by first | exact HZL.out | exact HZO.out) (by assumption) (fun _ _ => ?_)
               | refine wpX_ef' rfl rfl rfl (fun _ _ => ?_)
             go_wp2_with fail)
          refine (HB1.out _).mono ?_; rintro _ _ ⟨rfl, hw⟩; have hS := Chg.then (by assumption) hw; have hk := Chg.cells hS HSZ.out (by simp); have hk2 := Chg.cells hS HSL.out (by simp); clear hw
          go_wp2_with fail
          refine And.intro (by assumption : Chg _ _ _) ?_
          repeat
            (with_reducible show wpX _ _ _ _ _ _ _ _
             first
               | refine wpX_nil ?_
               | refine wpX_skip rfl ?_
               | refine wpX_mv rfl rfl (by kernel_rfl) (fun _ _ => ?_)
               | refine wpX_ldC rfl rfl rfl (by first | exact HZL.out | exact HZO.out) (by assumption) (fun _ _ => ?_)
               | refine wpX_ef' rfl rfl rfl (fun _ _ => ?_)
             go_wp2_with fail)
          go_ret
          rw [right_no (.inr <| .inr <| .inl <| (all_no HX.out TH.out))]
          exact ⟨rfl, ((HC.out.alloc _).drew).then hS⟩
        · skip
          rw [Bool.not_eq_false'] at t1
          simp only [t1] at hb1
          have HB1 := Lib.hid hb1; have HB2 := Lib.hid hb2; have TH := Lib.hid th; clear hb1 hb2 th
          go_wp2_with fail
          refine wp_region_C [] rfl (by kernel_rfl) ?_
          have hl := Blk.new wr #[str m.u.name, str m.u.need, .slice m.at_ m.u.names.length m.cap] 56
          have hlz : (wr.alloc (.cells #[str m.u.name, str m.u.need, .slice m.at_ m.u.names.length m.cap] 56)).drew.cell? ⟨wr.heap.size, 0, none⟩ = _ := hl.cell 0 _ rfl
          have hoz : (wr.alloc (.cells #[str m.u.name, str m.u.need, .slice m.at_ m.u.names.length m.cap] 56)).drew.cell? ⟨b, off, none⟩ = _ := ((Chg.refl [] wr).alloc _).drew.cellSome hc_0 (by simp)
          have HZL := Lib.hid (Zone.of (X := []) hlz (by simp))
          have HZO := Lib.hid (Zone.of (X := []) hoz (by simp))
          have HSZ := Lib.hid (show b < (wr.alloc (.cells #[str m.u.name, str m.u.need, .slice m.at_ m.u.names.length m.cap] 56)).drew.heap.size by have := HLTW.out; simp; omega)
          have HSL := Lib.hid (show wr.heap.size < (wr.alloc (.cells #[str m.u.name, str m.u.need, .slice m.at_ m.u.names.length m.cap] 56)).drew.heap.size by simp)
          clear hl hlz hoz
          have hS : Chg [] (wr.alloc (.cells #[str m.u.name, str m.u.need, .slice m.at_ m.u.names.length m.cap] 56)).drew (wr.alloc (.cells #[str m.u.name, str m.u.need, .slice m.at_ m.u.names.length m.cap] 56)).drew := Chg.refl _ _
          repeat
            (with_reducible show wpX _ _ _ _ _ _ _ _
             first
               | refine wpX_nil ?_
               | refine wpX_skip rfl ?_
               | refine wpX_mv rfl rfl (by kernel_rfl) (fun _ _ => ?_)
               | refine wpX_ldC rfl rfl rfl (by first | exact HZL.out | exact HZO.out) (by assumption) (fun _ _ => ?_)
               | refine wpX_ef' rfl rfl rfl (fun _ _ => ?_)
             go_wp2_with fail)
          refine (HB1.out _).mono ?_; rintro _ _ ⟨rfl, hw⟩; have hS := Chg.then (by assumption) hw; have hk := Chg.cells hS HSZ.out (by simp); have hk2 := Chg.cells hS HSL.out (by simp); clear hw
          go_wp2_with fail
          refine And.intro (by assumption : Chg _ _ _) ?_
          repeat
            (with_reducible show wpX _ _ _ _ _ _ _ _
             first
               | refine wpX_nil ?_
               | refine wpX_skip rfl ?_
               | refine wpX_mv rfl rfl (by kernel_rfl) (fun _ _ => ?_)
               | refine wpX_ldC rfl rfl rfl (by first | exact HZL.out | exact HZO.out) (by assumption) (fun _ _ => ?_)
               | refine wpX_ef' rfl rfl rfl (fun _ _ => ?_)
             go_wp2_with fail)
          go_ret
          rw [right_no (.inr <| .inr <| .inl <| (all_no HX.out TH.out))]
          exact ⟨rfl, ((HC.out.alloc _).drew).then hS⟩
        · skip
          rw [Bool.not_eq_false'] at t1
          simp only [t1] at hb1
          rw [Bool.not_eq_true'] at t3
          simp only [t3] at hb2
          have HB1 := Lib.hid hb1; have HB2 := Lib.hid hb2; have TH := Lib.hid th; clear hb1 hb2 th
          go_wp2_with fail
          refine wp_region_C [] rfl (by kernel_rfl) ?_
          have hl := Blk.new wr #[str m.u.name, str m.u.need, .slice m.at_ m.u.names.length m.cap] 56
          have hlz : (wr.alloc (.cells #[str m.u.name, str m.u.need, .slice m.at_ m.u.names.length m.cap] 56)).drew.cell? ⟨wr.heap.size, 0, none⟩ = _ := hl.cell 0 _ rfl
          have hoz : (wr.alloc (.cells #[str m.u.name, str m.u.need, .slice m.at_ m.u.names.length m.cap] 56)).drew.cell? ⟨b, off, none⟩ = _ := ((Chg.refl [] wr).alloc _).drew.cellSome hc_0 (by simp)
          have HZL := Lib.hid (Zone.of (X := []) hlz (by simp))
          have HZO := Lib.hid (Zone.of (X := []) hoz (by simp))
          have HSZ := Lib.hid (show b < (wr.alloc (.cells #[str m.u.name, str m.u.need, .slice m.at_ m.u.names.length m.cap] 56)).drew.heap.size by have := HLTW.out; simp; omega)
          have HSL := Lib.hid (show wr.heap.size < (wr.alloc (.cells #[str m.u.name, str m.u.need, .slice m.at_ m.u.names.length m.cap] 56)).drew.heap.size by simp)
          clear hl hlz hoz
          have hS : Chg [] (wr.alloc (.cells #[str m.u.name, str m.u.need, .slice m.at_ m.u.names.length m.cap] 56)).drew (wr.alloc (.cells #[str m.u.name, str m.u.need, .slice m.at_ m.u.names.length m.cap] 56)).drew := Chg.refl _ _
          repeat
            (with_reducible show wpX _ _ _ _ _ _ _ _
             first
               | refine wpX_nil ?_
               | refine wpX_skip rfl ?_
               | refine wpX_mv rfl rfl (by kernel_rfl) (fun _ _ => ?_)
               | refine wpX_ldC rfl rfl rfl (by first | exact HZL.out | exact HZO.out) (by assumption) (fun _ _ => ?_)
               | refine wpX_ef' rfl rfl rfl (fun _ _ => ?_)
             go_wp2_with fail)
          refine (HB1.out _).mono ?_; rintro _ _ ⟨rfl, hw⟩; have hS := Chg.then (by assumption) hw; have hk := Chg.cells hS HSZ.out (by simp); have hk2 := Chg.cells hS HSL.out (by simp); clear hw
          go_wp2_with fail
          refine And.intro (by assumption : Chg _ _ _) ?_
          repeat
            (with_reducible show wpX _ _ _ _ _ _ _ _
             first
               | refine wpX_nil ?_
               | refine wpX_skip rfl ?_
               | refine wpX_mv rfl rfl (by kernel_rfl) (fun _ _ => ?_)
               | refine wpX_ldC rfl rfl rfl (by first | exact HZL.out | exact HZO.out) (by assumption) (fun _ _ => ?_)
               | refine wpX_ef' rfl rfl rfl (fun _ _ => ?_)
             go_wp2_with fail)
          refine (HB2.out _ (by assumption)).mono ?_; rintro _ _ ⟨rfl, hw⟩; have hS := Chg.then (by assumption) hw; have hk := Chg.cells hS HSZ.out (by simp); have hk2 := Chg.cells hS HSL.out (by simp); clear hw
          go_wp2_with fail
          refine And.intro (by assumption : Chg _ _ _) ?_
          repeat
            (with_reducible show wpX _ _ _ _ _ _ _ _
             first
               | refine wpX_nil ?_
               | refine wpX_skip rfl ?_
               | refine wpX_mv rfl rfl (by kernel_rfl) (fun _ _ => ?_)
               | refine wpX_ldC rfl rfl rfl (by first | exact HZL.out | exact HZO.out) (by assumption) (fun _ _ => ?_)
               | refine wpX_ef' rfl rfl rfl (fun _ _ => ?_)
             go_wp2_with fail)
          go_ret
          rw [right_no (.inr <| .inr <| .inl <| (all_no HX.out TH.out))]
          exact ⟨rfl, ((HC.out.alloc _).drew).then hS⟩
        · skip
          rw [Bool.not_eq_false'] at t1
          simp only [t1] at hb1
          rw [Bool.not_eq_false'] at t3
          simp only [t3] at hb2
          have HB1 := Lib.hid hb1; have HB2 := Lib.hid hb2; have TH := Lib.hid th; clear hb1 hb2 th
          go_wp2_with fail
          refine wp_region_C [] rfl (by kernel_rfl) ?_
          have hl := Blk.new wr #[str m.u.name, str m.u.need, .slice m.at_ m.u.names.length m.cap] 56
          have hlz : (wr.alloc (.cells #[str m.u.name, str m.u.need, .slice m.at_ m.u.names.length m.cap] 56)).drew.cell? ⟨wr.heap.size, 0, none⟩ = _ := hl.cell 0 _ rfl
          have hoz : (wr.alloc (.cells #[str m.u.name, str m.u.need, .slice m.at_ m.u.names.length m.cap] 56)).drew.cell? ⟨b, off, none⟩ = _ := ((Chg.refl [] wr).alloc _).drew.cellSome hc_0 (by simp)
          have HZL := Lib.hid (Zone.of (X := []) hlz (by simp))
          have HZO := Lib.hid (Zone.of (X := []) hoz (by simp))
          have HSZ := Lib.hid (show b < (wr.alloc (.cells #[str m.u.name, str m.u.need, .slice m.at_ m.u.names.length m.cap] 56)).drew.heap.size by have := HLTW.out; simp; omega)
          have HSL := Lib.hid (show wr.heap.size < (wr.alloc (.cells #[str m.u.name, str m.u.need, .slice m.at_ m.u.names.length m.cap] 56)).drew.heap.size by simp)
          clear hl hlz hoz
          have hS : Chg [] (wr.alloc (.cells #[str m.u.name, str m.u.need, .slice m.at_ m.u.names.length m.cap] 56)).drew (wr.alloc (.cells #[str m.u.name, str m.u.need, .slice m.at_ m.u.names.length m.cap] 56)).drew := Chg.refl _ _
          repeat
            (with_reducible show wpX _ _ _ _ _ _ _ _
             first
               | refine wpX_nil ?_
               | refine wpX_skip rfl ?_
               | refine wpX_mv rfl rfl (by kernel_rfl) (fun _ _ => ?_)
               | refine wpX_ldC rfl rfl rfl (by first | exact HZL.out | exact HZO.out) (by assumption) (fun _ _ => ?_)
               | refine wpX_ef' rfl rfl rfl (fun _ _ => ?_)
             go_wp2_with fail)
          refine (HB1.out _).mono ?_; rintro _ _ ⟨rfl, hw⟩; have hS := Chg.then (by assumption) hw; have hk := Chg.cells hS HSZ.out (by simp); have hk2 := Chg.cells hS HSL.out (by simp); clear hw
          go_wp2_with fail
          refine And.intro (by assumption : Chg _ _ _) ?_
          repeat
            (with_reducible show wpX _ _ _ _ _ _ _ _
             first
               | refine wpX_nil ?_
               | refine wpX_skip rfl ?_
               | refine wpX_mv rfl rfl (by kernel_rfl) (fun _ _ => ?_)
               | refine wpX_ldC rfl rfl rfl (by first | exact HZL.out | exact HZO.out) (by assumption) (fun _ _ => ?_)
               | refine wpX_ef' rfl rfl rfl (fun _ _ => ?_)
             go_wp2_with fail)
          refine (HB2.out _ (by assumption)).mono ?_; rintro _ _ ⟨rfl, hw⟩; have hS := Chg.then (by assumption) hw; have hk := Chg.cells hS HSZ.out (by simp); have hk2 := Chg.cells hS HSL.out (by simp); clear hw
          go_wp2_with fail
          refine And.intro (by assumption : Chg _ _ _) ?_
          repeat
            (with_reducible show wpX _ _ _ _ _ _ _ _
             first
               | refine wpX_nil ?_
               | refine wpX_skip rfl ?_
               | refine wpX_mv rfl rfl (by kernel_rfl) (fun _ _ => ?_)
               | refine wpX_ldC rfl rfl rfl (by first | exact HZL.out | exact HZO.out) (by assumption) (fun _ _ => ?_)
               | refine wpX_ef' rfl rfl rfl (fun _ _ => ?_)
             go_wp2_with fail)
          go_ret
          rw [right_no (.inr <| .inr <| .inl <| (all_no HX.out TH.out))]
          exact ⟨rfl, ((HC.out.alloc _).drew).then hS⟩
        · skip
          rw [Bool.not_eq_false'] at t1
          simp only [t1] at hb1
          rw [Bool.not_eq_false'] at t3
          simp only [t3] at hb2
          have HB1 := Lib.hid hb1; have HB2 := Lib.hid hb2; have TH := Lib.hid th; clear hb1 hb2 th
          go_wp2_with fail
          refine wp_region_C [] rfl (by kernel_rfl) ?_
          have hl := Blk.new wr #[str m.u.name, str m.u.need, .slice m.at_ m.u.names.length m.cap] 56
          have hlz : (wr.alloc (.cells #[str m.u.name, str m.u.need, .slice m.at_ m.u.names.length m.cap] 56)).drew.cell? ⟨wr.heap.size, 0, none⟩ = _ := hl.cell 0 _ rfl
          have hoz : (wr.alloc (.cells #[str m.u.name, str m.u.need, .slice m.at_ m.u.names.length m.cap] 56)).drew.cell? ⟨b, off, none⟩ = _ := ((Chg.refl [] wr).alloc _).drew.cellSome hc_0 (by simp)
          have HZL := Lib.hid (Zone.of (X := []) hlz (by simp))
          have HZO := Lib.hid (Zone.of (X := []) hoz (by simp))
          have HSZ := Lib.hid (show b < (wr.alloc (.cells #[str m.u.name, str m.u.need, .slice m.at_ m.u.names.length m.cap] 56)).drew.heap.size by have := HLTW.out; simp; omega)
          have HSL := Lib.hid (show wr.heap.size < (wr.alloc (.cells #[str m.u.name, str m.u.need, .slice m.at_ m.u.names.length m.cap] 56)).drew.heap.size by simp)
          clear hl hlz hoz
          have hS : Chg [] (wr.alloc (.cells #[str m.u.name, str m.u.need, .slice m.at_ m.u.names.length m.cap] 56)).drew (wr.alloc (.cells #[str m.u.name, str m.u.need, .slice m.at_ m.u.names.length m.cap] 56)).drew := Chg.refl _ _
          repeat
            (with_reducible show wpX _ _ _ _ _ _ _ _
             first
               | refine wpX_nil ?_
               | refine wpX_skip rfl ?_
               | refine wpX_mv rfl rfl (by kernel_rfl) (fun _ _ => ?_)
               | refine wpX_ldC rfl rfl rfl (by first | exact HZL.out | exact HZO.out) (by assumption) (fun _ _ => ?_)
               | refine wpX_ef' rfl rfl rfl (fun _ _ => ?_)
             go_wp2_with fail)
          refine (HB1.out _).mono ?_; rintro _ _ ⟨rfl, hw⟩; have hS := Chg.then (by assumption) hw; have hk := Chg.cells hS HSZ.out (by simp); have hk2 := Chg.cells hS HSL.out (by simp); clear hw
          go_wp2_with fail
          refine And.intro (by assumption : Chg _ _ _) ?_
          repeat
            (with_reducible show wpX _ _ _ _ _ _ _ _
             first
               | refine wpX_nil ?_
               | refine wpX_skip rfl ?_
               | refine wpX_mv rfl rfl (by kernel_rfl) (fun _ _ => ?_)
               | refine wpX_ldC rfl rfl rfl (by first | exact HZL.out | exact HZO.out) (by assumption) (fun _ _ => ?_)
               | refine wpX_ef' rfl rfl rfl (fun _ _ => ?_)
             go_wp2_with fail)
          refine (HB2.out _ (by assumption)).mono ?_; rintro _ _ ⟨rfl, hw⟩; have hS := Chg.then (by assumption) hw; have hk := Chg.cells hS HSZ.out (by simp); have hk2 := Chg.cells hS HSL.out (by simp); clear hw
          go_wp2_with fail
          refine And.intro (by assumption : Chg _ _ _) ?_
          repeat
            (with_reducible show wpX _ _ _ _ _ _ _ _
             first
               | refine wpX_nil ?_
               | refine wpX_skip rfl ?_
               | refine wpX_mv rfl rfl (by kernel_rfl) (fun _ _ => ?_)
               | refine wpX_ldC rfl rfl rfl (by first | exact HZL.out | exact HZO.out) (by assumption) (fun _ _ => ?_)
               | refine wpX_ef' rfl rfl rfl (fun _ _ => ?_)
             go_wp2_with fail)
          go_ret
          rw [right_no (.inr <| .inr <| .inl <| (all_no HX.out TH.out))]
          exact ⟨rfl, ((HC.out.alloc _).drew).then hS⟩
        · skip
          rw [Bool.not_eq_false'] at t1
          simp only [t1] at hb1
          rw [Bool.not_eq_false'] at t3
          simp only [t3] at hb2
          have HB1 := Lib.hid hb1; have HB2 := Lib.hid hb2; have TH := Lib.hid th; clear hb1 hb2 th
          go_wp2_with fail
          refine wp_region_C [] rfl (by kernel_rfl) ?_
          have hl := Blk.new wr #[str m.u.name, str m.u.need, .slice m.at_ m.u.names.length m.cap] 56
          have hlz : (wr.alloc (.cells #[str m.u.name, str m.u.need, .slice m.at_ m.u.names.length m.cap] 56)).drew.cell? ⟨wr.heap.size, 0, none⟩ = _ := hl.cell 0 _ rfl
          have hoz : (wr.alloc (.cells #[str m.u.name, str m.u.need, .slice m.at_ m.u.names.length m.cap] 56)).drew.cell? ⟨b, off, none⟩ = _ := ((Chg.refl [] wr).alloc _).drew.cellSome hc_0 (by simp)
          have HZL := Lib.hid (Zone.of (X := []) hlz (by simp))
          have HZO := Lib.hid (Zone.of (X := []) hoz (by simp))
          have HSZ := Lib.hid (show b < (wr.alloc (.cells #[str m.u.name, str m.u.need, .slice m.at_ m.u.names.length m.cap] 56)).drew.heap.size by have := HLTW.out; simp; omega)
          have HSL := Lib.hid (show wr.heap.size < (wr.alloc (.cells #[str m.u.name, str m.u.need, .slice m.at_ m.u.names.length m.cap] 56)).drew.heap.size by simp)
          clear hl hlz hoz
          have hS : Chg [] (wr.alloc (.cells #[str m.u.name, str m.u.need, .slice m.at_ m.u.names.length m.cap] 56)).drew (wr.alloc (.cells #[str m.u.name, str m.u.need, .slice m.at_ m.u.names.length m.cap] 56)).drew := Chg.refl _ _
          repeat
            (with_reducible show wpX _ _ _ _ _ _ _ _
             first
               | refine wpX_nil ?_
               | refine wpX_skip rfl ?_
               | refine wpX_mv rfl rfl (by kernel_rfl) (fun _ _ => ?_)
               | refine wpX_ldC rfl rfl rfl (by first | exact HZL.out | exact HZO.out) (by assumption) (fun _ _ => ?_)
               | refine wpX_ef' rfl rfl rfl (fun _ _ => ?_)
             go_wp2_with fail)
          refine (HB1.out _).mono ?_; rintro _ _ ⟨rfl, hw⟩; have hS := Chg.then (by assumption) hw; have hk := Chg.cells hS HSZ.out (by simp); have hk2 := Chg.cells hS HSL.out (by simp); clear hw
          go_wp2_with fail
          refine And.intro (by assumption : Chg _ _ _) ?_
          repeat
            (with_reducible show wpX _ _ _ _ _ _ _ _
             first
               | refine wpX_nil ?_
               | refine wpX_skip rfl ?_
               | refine wpX_mv rfl rfl (by kernel_rfl) (fun _ _ => ?_)
               | refine wpX_ldC rfl rfl rfl (by first | exact HZL.out | exact HZO.out) (by assumption) (fun _ _ => ?_)
               | refine wpX_ef' rfl rfl rfl (fun _ _ => ?_)
             go_wp2_with fail)
          refine (HB2.out _ (by assumption)).mono ?_; rintro _ _ ⟨rfl, hw⟩; have hS := Chg.then (by assumption) hw; have hk := Chg.cells hS HSZ.out (by simp); have hk2 := Chg.cells hS HSL.out (by simp); clear hw
          go_wp2_with fail
          refine And.intro (by assumption : Chg _ _ _) ?_
          repeat
            (with_reducible show wpX _ _ _ _ _ _ _ _
             first
               | refine wpX_nil ?_
               | refine wpX_skip rfl ?_
               | refine wpX_mv rfl rfl (by kernel_rfl) (fun _ _ => ?_)
               | refine wpX_ldC rfl rfl rfl (by first | exact HZL.out | exact HZO.out) (by assumption) (fun _ _ => ?_)
               | refine wpX_ef' rfl rfl rfl (fun _ _ => ?_)
             go_wp2_with fail)
          go_roundw
          case rel => exact ⟨k + 1, by omega, by go_num, all_next HX.out TH.out HALL.out, ((HC.out.alloc _).drew).then hS⟩
          case measure => simp [intOf]; omega
      · have hkn : k = o.uses.length := by omega
        have HA_uses := Lib.hid (show o.uses.all (useOK o.name) = true by have := HALL.out; rwa [hkn, List.take_length] at this)
        have HC0 := Lib.hid hc
        have h_2 : wr.cell? ⟨b, off + 2, none⟩ = _ := hc.cellSome H.out.c2 (by simp)
        have h_3 : wr.cell? ⟨b, off + 3, none⟩ = _ := hc.cellSome H.out.c3 (by simp)
        have h_4 : wr.cell? ⟨b, off + 4, none⟩ = _ := hc.cellSome H.out.c4 (by simp)
        have h_6 : wr.cell? ⟨b, off + 6, none⟩ = _ := hc.cellSome H.out.c6 (by simp)
        dsimp only at h_2 h_3 h_4 h_6
        clear hc hk hkn HALL
        go_wp2_with fail
        clear h_2 h_3 h_4 h_6 hlt
        go_loopw [9, 162] (fun _ i wr => ∃ k : Nat, k ≤ o.vars.length ∧ i = .int .i64 k ∧ (o.vars.take k).all globOK = true ∧ Chg [] w wr) (fun _ i _ => o.vars.length - (intOf i).toNat)
        case atStart => exact ⟨0, Nat.zero_le _, rfl, by simp, HC0.out⟩
        case round =>
        obtain ⟨k, hk, rfl, hall, hc⟩ := hrel
        have HALL := Lib.hid hall; clear hall
        by_cases hlt : k < o.vars.length
        · obtain ⟨x, hx⟩ : ∃ x, o.vars[k]? = some x := ⟨o.vars[k], by simp [hlt]⟩
          have hat : At w va (o.vars.flatMap GlobD.cells) := H.out.v
          obtain ⟨bb, boff, rfl, hcell⟩ := hat (by rw [flat_len _ 4 (fun _ => rfl)]; omega)
          have hcs : ∀ j, j < 4 → wr.cell? ⟨bb, boff + (k * 4 + j), none⟩ = (GlobD.cells x)[j]? := fun j hj => by
            have h1 := flat_get GlobD.cells 4 (fun _ => rfl) o.vars k j x hx hj
            have h2 : j < (GlobD.cells x).length := hj
            rw [List.getElem?_eq_getElem h2] at h1 ⊢
            exact hc.cellSome (hcell _ _ (by simpa using h1)) (by simp)
          have hc0 : wr.cell? ⟨bb, boff + k * 4, none⟩ = some (str x.name) := hcs 0 (by omega)
          have hc1 : wr.cell? ⟨bb, boff + k * 4 + 1, none⟩ = some (.int .i64 x.place) := by have := hcs 1 (by omega); rw [← Nat.add_assoc] at this; exact this
          have hc2 : wr.cell? ⟨bb, boff + k * 4 + 2, none⟩ = some (.int .i64 x.len) := by have := hcs 2 (by omega); rw [← Nat.add_assoc] at this; exact this
          have hc3 : wr.cell? ⟨bb, boff + k * 4 + 3, none⟩ = some (.bool x.seen) := by have := hcs 3 (by omega); rw [← Nat.add_assoc] at this; exact this
          have hc_0 : wr.cell? ⟨b, off, none⟩ = _ := hc.cellSome H.out.c0 (by simp)
          have hc_6 : wr.cell? ⟨b, off + 6, none⟩ = _ := hc.cellSome H.out.c6 (by simp)
          dsimp only at hc_6
          have hltw : b < wr.heap.size := Nat.lt_of_lt_of_le H.out.blt hc.size
          have HLTW := Lib.hid hltw
          have HX := Lib.hid hx; have HC := Lib.hid hc
          have hb1 := fun w' => rname_any x.name w' (by have := HS.out.vars.2 x (List.mem_of_getElem? hx); omega)
          clear hcs hcell hx hc hat
          have hb3 := fun w' => rin_any x.len 0 30 w'
          rcases rglob_cases x with ⟨t1, th⟩ | ⟨t1, t2, th⟩ | ⟨t1, t2, t3, th⟩ | ⟨t1, t2, t3, th⟩
          · skip
            rw [Bool.not_eq_true'] at t1
            simp only [t1] at hb1
            have HB1 := Lib.hid hb1; have HB3 := Lib.hid hb3; have TH := Lib.hid th; clear hb1 hb3 th
            go_wp2_with fail
            refine (HB1.out _).mono ?_; rintro _ _ ⟨rfl, rfl⟩
            go_wp2_with fail
            go_ret
            rw [right_no (.inr <| .inr <| .inr <| .inl <| (all_no HX.out TH.out))]
            exact ⟨rfl, HC.out.alloc _⟩
          · skip
            rw [Bool.not_eq_false'] at t1
            simp only [t1] at hb1
            have HB1 := Lib.hid hb1; have HB3 := Lib.hid hb3; have TH := Lib.hid th; clear hb1 hb3 th
            go_wp2_with fail
            refine (HB1.out _).mono ?_; rintro _ _ ⟨rfl, rfl⟩
            go_wp2_with fail
            go_ret
            rw [right_no (.inr <| .inr <| .inr <| .inl <| (all_no HX.out TH.out))]
            exact ⟨rfl, HC.out.alloc _⟩
          · skip
            rw [Bool.not_eq_false'] at t1
            simp only [t1] at hb1
            rw [Bool.not_eq_true'] at t3
            simp only [t3] at hb3
            have HB1 := Lib.hid hb1; have HB3 := Lib.hid hb3; have TH := Lib.hid th; clear hb1 hb3 th
            go_wp2_with fail
            refine (HB1.out _).mono ?_; rintro _ _ ⟨rfl, rfl⟩
            go_wp2_with fail
            refine (HB3.out _).mono ?_; rintro _ _ ⟨rfl, rfl⟩
            go_wp2_with fail
            go_ret
            rw [right_no (.inr <| .inr <| .inr <| .inl <| (all_no HX.out TH.out))]
            exact ⟨rfl, HC.out.alloc _⟩
          · skip
            rw [Bool.not_eq_false'] at t1
            simp only [t1] at hb1
            rw [Bool.not_eq_false'] at t3
            simp only [t3] at hb3
            have HB1 := Lib.hid hb1; have HB3 := Lib.hid hb3; have TH := Lib.hid th; clear hb1 hb3 th
            go_wp2_with fail
            refine (HB1.out _).mono ?_; rintro _ _ ⟨rfl, rfl⟩
            go_wp2_with fail
            refine (HB3.out _).mono ?_; rintro _ _ ⟨rfl, rfl⟩
            go_wp2_with fail
            go_roundw
            case rel => exact ⟨k + 1, by omega, by go_num, all_next HX.out TH.out HALL.out, HC.out.alloc _⟩
            case measure => simp [intOf]; omega
        · have hkn : k = o.vars.length := by omega
          have HA_vars := Lib.hid (show o.vars.all globOK = true by have := HALL.out; rwa [hkn, List.take_length] at this)
          have HC0 := Lib.hid hc
          have h_2 : wr.cell? ⟨b, off + 2, none⟩ = _ := hc.cellSome H.out.c2 (by simp)
          have h_3 : wr.cell? ⟨b, off + 3, none⟩ = _ := hc.cellSome H.out.c3 (by simp)
          have h_4 : wr.cell? ⟨b, off + 4, none⟩ = _ := hc.cellSome H.out.c4 (by simp)
          have h_6 : wr.cell? ⟨b, off + 6, none⟩ = _ := hc.cellSome H.out.c6 (by simp)
          dsimp only at h_2 h_3 h_4 h_6
          clear hc hk hkn HALL
          go_wp2_with fail
          clear h_2 h_3 h_4 h_6 hlt
          go_loopw [11, 187] (fun _ i wr => ∃ k : Nat, k ≤ o.procs.length ∧ i = .int .i64 k ∧ (o.procs.take k).all (entOK o.code.length) = true ∧ Chg [] w wr) (fun _ i _ => o.procs.length - (intOf i).toNat)
          case atStart => exact ⟨0, Nat.zero_le _, rfl, by simp, HC0.out⟩
          case round =>
          obtain ⟨k, hk, rfl, hall, hc⟩ := hrel
          have HALL := Lib.hid hall; clear hall
          by_cases hlt : k < o.procs.length
          · obtain ⟨x, hx⟩ : ∃ x, o.procs[k]? = some x := ⟨o.procs[k], by simp [hlt]⟩
            have hat : At w pa (o.procs.flatMap EntD.cells) := H.out.p
            obtain ⟨bb, boff, rfl, hcell⟩ := hat (by rw [flat_len _ 3 (fun _ => rfl)]; omega)
            have hcs : ∀ j, j < 3 → wr.cell? ⟨bb, boff + (k * 3 + j), none⟩ = (EntD.cells x)[j]? := fun j hj => by
              have h1 := flat_get EntD.cells 3 (fun _ => rfl) o.procs k j x hx hj
              have h2 : j < (EntD.cells x).length := hj
              rw [List.getElem?_eq_getElem h2] at h1 ⊢
              exact hc.cellSome (hcell _ _ (by simpa using h1)) (by simp)
            have hc0 : wr.cell? ⟨bb, boff + k * 3, none⟩ = some (.int .i64 x.place) := hcs 0 (by omega)
            have hc1 : wr.cell? ⟨bb, boff + k * 3 + 1, none⟩ = some (.int .i64 x.args) := by have := hcs 1 (by omega); rw [← Nat.add_assoc] at this; exact this
            have hc2 : wr.cell? ⟨bb, boff + k * 3 + 2, none⟩ = some (.int .i64 x.locals) := by have := hcs 2 (by omega); rw [← Nat.add_assoc] at this; exact this
            have hc_0 : wr.cell? ⟨b, off, none⟩ = _ := hc.cellSome H.out.c0 (by simp)
            have hc_6 : wr.cell? ⟨b, off + 6, none⟩ = _ := hc.cellSome H.out.c6 (by simp)
            dsimp only at hc_6
            have hltw : b < wr.heap.size := Nat.lt_of_lt_of_le H.out.blt hc.size
            have HLTW := Lib.hid hltw
            have HX := Lib.hid hx; have HC := Lib.hid hc
            clear hcs hcell hx hc hat
            have hb1 := fun w' => rin_ans x.place 0 ((o.code.length : Int) - 1) w'
            have hb2 := fun w' => rin_ans x.args 0 10 w'
            have hb3 := fun w' => rin_ans x.locals x.args 10 w'
            rcases rent_cases o.code.length x with ⟨t1, th⟩ | ⟨t1, t2, th⟩ | ⟨t1, t2, t3, th⟩ | ⟨t1, t2, t3, th⟩
            · skip
              rw [Bool.not_eq_true'] at t1
              simp only [t1] at hb1
              have HB1 := Lib.hid hb1; have HB2 := Lib.hid hb2; have HB3 := Lib.hid hb3; have TH := Lib.hid th; clear hb1 hb2 hb3 th
              go_wp2_with fail
              refine wp_region_C [] rfl (by kernel_rfl) ?_
              have hl := Blk.new wr #[.int .i64 x.place, .int .i64 x.args, .int .i64 x.locals] 47
              have hlz : (wr.alloc (.cells #[.int .i64 x.place, .int .i64 x.args, .int .i64 x.locals] 47)).drew.cell? ⟨wr.heap.size, 0, none⟩ = _ := hl.cell 0 _ rfl
              have hoz : (wr.alloc (.cells #[.int .i64 x.place, .int .i64 x.args, .int .i64 x.locals] 47)).drew.cell? ⟨b, off, none⟩ = _ := ((Chg.refl [] wr).alloc _).drew.cellSome hc_0 (by simp)
              have HZL := Lib.hid (Zone.of (X := []) hlz (by simp))
              have HZO := Lib.hid (Zone.of (X := []) hoz (by simp))
              have HSZ := Lib.hid (show b < (wr.alloc (.cells #[.int .i64 x.place, .int .i64 x.args, .int .i64 x.locals] 47)).drew.heap.size by have := HLTW.out; simp; omega)
              have HSL := Lib.hid (show wr.heap.size < (wr.alloc (.cells #[.int .i64 x.place, .int .i64 x.args, .int .i64 x.locals] 47)).drew.heap.size by simp)
              clear hl hlz hoz
              have hS : Chg [] (wr.alloc (.cells #[.int .i64 x.place, .int .i64 x.args, .int .i64 x.locals] 47)).drew (wr.alloc (.cells #[.int .i64 x.place, .int .i64 x.args, .int .i64 x.locals] 47)).drew := Chg.refl _ _
              repeat
                (with_reducible show wpX _ _ _ _ _ _ _ _
                 first
                   | refine wpX_nil ?_
                   | refine wpX_skip rfl ?_
                   | refine wpX_mv rfl rfl (by kernel_rfl) (fun _ _ => ?_)
                   | refine wpX_ldC rfl rfl rfl (by first | exact HZL.out | exact HZO.out) (by assumption) (fun _ _ => ?_)
                   | refine wpX_ef' rfl rfl rfl (fun _ _ => ?_)
                 go_wp2_with fail)
              refine (HB1.out _).mono ?_; rintro _ _ ⟨rfl, hw⟩; have hS := Chg.then (by assumption) hw; have hk := Chg.cells hS HSZ.out (by simp); have hk2 := Chg.cells hS HSL.out (by simp); clear hw
              go_wp2_with fail
              refine And.intro (by assumption : Chg _ _ _) ?_
              repeat
                (with_reducible show wpX _ _ _ _ _ _ _ _
                 first
                   | refine wpX_nil ?_
                   | refine wpX_skip rfl ?_
                   | refine wpX_mv rfl rfl (by kernel_rfl) (fun _ _ => ?_)
                   | refine wpX_ldC rfl rfl rfl (by first | exact HZL.out | exact HZO.out) (by assumption) (fun _ _ => ?_)
                   | refine wpX_ef' rfl rfl rfl (fun _ _ => ?_)
                 go_wp2_with fail)
              go_ret
              rw [right_no (.inr <| .inr <| .inr <| .inr <| .inl <| (all_no HX.out TH.out))]
              exact ⟨rfl, ((HC.out.alloc _).drew).then hS⟩
            · skip
              rw [Bool.not_eq_false'] at t1
              simp only [t1] at hb1
              rw [Bool.not_eq_true'] at t2
              simp only [t2] at hb2
              have HB1 := Lib.hid hb1; have HB2 := Lib.hid hb2; have HB3 := Lib.hid hb3; have TH := Lib.hid th; clear hb1 hb2 hb3 th
              go_wp2_with fail
              refine wp_region_C [] rfl (by kernel_rfl) ?_
              have hl := Blk.new wr #[.int .i64 x.place, .int .i64 x.args, .int .i64 x.locals] 47
              have hlz : (wr.alloc (.cells #[.int .i64 x.place, .int .i64 x.args, .int .i64 x.locals] 47)).drew.cell? ⟨wr.heap.size, 0, none⟩ = _ := hl.cell 0 _ rfl
              have hoz : (wr.alloc (.cells #[.int .i64 x.place, .int .i64 x.args, .int .i64 x.locals] 47)).drew.cell? ⟨b, off, none⟩ = _ := ((Chg.refl [] wr).alloc _).drew.cellSome hc_0 (by simp)
              have HZL := Lib.hid (Zone.of (X := []) hlz (by simp))
              have HZO := Lib.hid (Zone.of (X := []) hoz (by simp))
              have HSZ := Lib.hid (show b < (wr.alloc (.cells #[.int .i64 x.place, .int .i64 x.args, .int .i64 x.locals] 47)).drew.heap.size by have := HLTW.out; simp; omega)
              have HSL := Lib.hid (show wr.heap.size < (wr.alloc (.cells #[.int .i64 x.place, .int .i64 x.args, .int .i64 x.locals] 47)).drew.heap.size by simp)
              clear hl hlz hoz
              have hS : Chg [] (wr.alloc (.cells #[.int .i64 x.place, .int .i64 x.args, .int .i64 x.locals] 47)).drew (wr.alloc (.cells #[.int .i64 x.place, .int .i64 x.args, .int .i64 x.locals] 47)).drew := Chg.refl _ _
              repeat
                (with_reducible show wpX _ _ _ _ _ _ _ _
                 first
                   | refine wpX_nil ?_
                   | refine wpX_skip rfl ?_
                   | refine wpX_mv rfl rfl (by kernel_rfl) (fun _ _ => ?_)
                   | refine wpX_ldC rfl rfl rfl (by first | exact HZL.out | exact HZO.out) (by assumption) (fun _ _ => ?_)
                   | refine wpX_ef' rfl rfl rfl (fun _ _ => ?_)
                 go_wp2_with fail)
              refine (HB1.out _).mono ?_; rintro _ _ ⟨rfl, hw⟩; have hS := Chg.then (by assumption) hw; have hk := Chg.cells hS HSZ.out (by simp); have hk2 := Chg.cells hS HSL.out (by simp); clear hw
              go_wp2_with fail
              refine And.intro (by assumption : Chg _ _ _) ?_
              repeat
                (with_reducible show wpX _ _ _ _ _ _ _ _
                 first
                   | refine wpX_nil ?_
                   | refine wpX_skip rfl ?_
                   | refine wpX_mv rfl rfl (by kernel_rfl) (fun _ _ => ?_)
                   | refine wpX_ldC rfl rfl rfl (by first | exact HZL.out | exact HZO.out) (by assumption) (fun _ _ => ?_)
                   | refine wpX_ef' rfl rfl rfl (fun _ _ => ?_)
                 go_wp2_with fail)
              refine (HB2.out _).mono ?_; rintro _ _ ⟨rfl, hw⟩; have hS := Chg.then (by assumption) hw; have hk := Chg.cells hS HSZ.out (by simp); have hk2 := Chg.cells hS HSL.out (by simp); clear hw
              go_wp2_with fail
              refine And.intro (by assumption : Chg _ _ _) ?_
              repeat
                (with_reducible show wpX _ _ _ _ _ _ _ _
                 first
                   | refine wpX_nil ?_
                   | refine wpX_skip rfl ?_
                   | refine wpX_mv rfl rfl (by kernel_rfl) (fun _ _ => ?_)
                   | refine wpX_ldC rfl rfl rfl (by first | exact HZL.out | exact HZO.out) (by assumption) (fun _ _ => ?_)
                   | refine wpX_ef' rfl rfl rfl (fun _ _ => ?_)
                 go_wp2_with fail)
              go_ret
              rw [right_no (.inr <| .inr <| .inr <| .inr <| .inl <| (all_no HX.out TH.out))]
              exact ⟨rfl, ((HC.out.alloc _).drew).then hS⟩
            · skip
              rw [Bool.not_eq_false'] at t1
              simp only [t1] at hb1
              rw [Bool.not_eq_false'] at t2
              simp only [t2] at hb2
              rw [Bool.not_eq_true'] at t3
              simp only [t3] at hb3
              have HB1 := Lib.hid hb1; have HB2 := Lib.hid hb2; have HB3 := Lib.hid hb3; have TH := Lib.hid th; clear hb1 hb2 hb3 th
              go_wp2_with fail
              refine wp_region_C [] rfl (by kernel_rfl) ?_
              have hl := Blk.new wr #[.int .i64 x.place, .int .i64 x.args, .int .i64 x.locals] 47
              have hlz : (wr.alloc (.cells #[.int .i64 x.place, .int .i64 x.args, .int .i64 x.locals] 47)).drew.cell? ⟨wr.heap.size, 0, none⟩ = _ := hl.cell 0 _ rfl
              have hoz : (wr.alloc (.cells #[.int .i64 x.place, .int .i64 x.args, .int .i64 x.locals] 47)).drew.cell? ⟨b, off, none⟩ = _ := ((Chg.refl [] wr).alloc _).drew.cellSome hc_0 (by simp)
              have HZL := Lib.hid (Zone.of (X := []) hlz (by simp))
              have HZO := Lib.hid (Zone.of (X := []) hoz (by simp))
              have HSZ := Lib.hid (show b < (wr.alloc (.cells #[.int .i64 x.place, .int .i64 x.args, .int .i64 x.locals] 47)).drew.heap.size by have := HLTW.out; simp; omega)
              have HSL := Lib.hid (show wr.heap.size < (wr.alloc (.cells #[.int .i64 x.place, .int .i64 x.args, .int .i64 x.locals] 47)).drew.heap.size by simp)
              clear hl hlz hoz
              have hS : Chg [] (wr.alloc (.cells #[.int .i64 x.place, .int .i64 x.args, .int .i64 x.locals] 47)).drew (wr.alloc (.cells #[.int .i64 x.place, .int .i64 x.args, .int .i64 x.locals] 47)).drew := Chg.refl _ _
              repeat
                (with_reducible show wpX _ _ _ _ _ _ _ _
                 first
                   | refine wpX_nil ?_
                   | refine wpX_skip rfl ?_
                   | refine wpX_mv rfl rfl (by kernel_rfl) (fun _ _ => ?_)
                   | refine wpX_ldC rfl rfl rfl (by first | exact HZL.out | exact HZO.out) (by assumption) (fun _ _ => ?_)
                   | refine wpX_ef' rfl rfl rfl (fun _ _ => ?_)
                 go_wp2_with fail)
              refine (HB1.out _).mono ?_; rintro _ _ ⟨rfl, hw⟩; have hS := Chg.then (by assumption) hw; have hk := Chg.cells hS HSZ.out (by simp); have hk2 := Chg.cells hS HSL.out (by simp); clear hw
              go_wp2_with fail
              refine And.intro (by assumption : Chg _ _ _) ?_
              repeat
                (with_reducible show wpX _ _ _ _ _ _ _ _
                 first
                   | refine wpX_nil ?_
                   | refine wpX_skip rfl ?_
                   | refine wpX_mv rfl rfl (by kernel_rfl) (fun _ _ => ?_)
                   | refine wpX_ldC rfl rfl rfl (by first | exact HZL.out | exact HZO.out) (by assumption) (fun _ _ => ?_)
                   | refine wpX_ef' rfl rfl rfl (fun _ _ => ?_)
                 go_wp2_with fail)
              refine (HB2.out _).mono ?_; rintro _ _ ⟨rfl, hw⟩; have hS := Chg.then (by assumption) hw; have hk := Chg.cells hS HSZ.out (by simp); have hk2 := Chg.cells hS HSL.out (by simp); clear hw
              go_wp2_with fail
              refine And.intro (by assumption : Chg _ _ _) ?_
              repeat
                (with_reducible show wpX _ _ _ _ _ _ _ _
                 first
                   | refine wpX_nil ?_
                   | refine wpX_skip rfl ?_
                   | refine wpX_mv rfl rfl (by kernel_rfl) (fun _ _ => ?_)
                   | refine wpX_ldC rfl rfl rfl (by first | exact HZL.out | exact HZO.out) (by assumption) (fun _ _ => ?_)
                   | refine wpX_ef' rfl rfl rfl (fun _ _ => ?_)
                 go_wp2_with fail)
              refine (HB3.out _).mono ?_; rintro _ _ ⟨rfl, hw⟩; have hS := Chg.then (by assumption) hw; have hk := Chg.cells hS HSZ.out (by simp); have hk2 := Chg.cells hS HSL.out (by simp); clear hw
              go_wp2_with fail
              refine And.intro (by assumption : Chg _ _ _) ?_
              repeat
                (with_reducible show wpX _ _ _ _ _ _ _ _
                 first
                   | refine wpX_nil ?_
                   | refine wpX_skip rfl ?_
                   | refine wpX_mv rfl rfl (by kernel_rfl) (fun _ _ => ?_)
                   | refine wpX_ldC rfl rfl rfl (by first | exact HZL.out | exact HZO.out) (by assumption) (fun _ _ => ?_)
                   | refine wpX_ef' rfl rfl rfl (fun _ _ => ?_)
                 go_wp2_with fail)
              go_ret
              rw [right_no (.inr <| .inr <| .inr <| .inr <| .inl <| (all_no HX.out TH.out))]
              exact ⟨rfl, ((HC.out.alloc _).drew).then hS⟩
            · skip
              rw [Bool.not_eq_false'] at t1
              simp only [t1] at hb1
              rw [Bool.not_eq_false'] at t2
              simp only [t2] at hb2
              rw [Bool.not_eq_false'] at t3
              simp only [t3] at hb3
              have HB1 := Lib.hid hb1; have HB2 := Lib.hid hb2; have HB3 := Lib.hid hb3; have TH := Lib.hid th; clear hb1 hb2 hb3 th
              go_wp2_with fail
              refine wp_region_C [] rfl (by kernel_rfl) ?_
              have hl := Blk.new wr #[.int .i64 x.place, .int .i64 x.args, .int .i64 x.locals] 47
              have hlz : (wr.alloc (.cells #[.int .i64 x.place, .int .i64 x.args, .int .i64 x.locals] 47)).drew.cell? ⟨wr.heap.size, 0, none⟩ = _ := hl.cell 0 _ rfl
              have hoz : (wr.alloc (.cells #[.int .i64 x.place, .int .i64 x.args, .int .i64 x.locals] 47)).drew.cell? ⟨b, off, none⟩ = _ := ((Chg.refl [] wr).alloc _).drew.cellSome hc_0 (by simp)
              have HZL := Lib.hid (Zone.of (X := []) hlz (by simp))
              have HZO := Lib.hid (Zone.of (X := []) hoz (by simp))
              have HSZ := Lib.hid (show b < (wr.alloc (.cells #[.int .i64 x.place, .int .i64 x.args, .int .i64 x.locals] 47)).drew.heap.size by have := HLTW.out; simp; omega)
              have HSL := Lib.hid (show wr.heap.size < (wr.alloc (.cells #[.int .i64 x.place, .int .i64 x.args, .int .i64 x.locals] 47)).drew.heap.size by simp)
              clear hl hlz hoz
              have hS : Chg [] (wr.alloc (.cells #[.int .i64 x.place, .int .i64 x.args, .int .i64 x.locals] 47)).drew (wr.alloc (.cells #[.int .i64 x.place, .int .i64 x.args, .int .i64 x.locals] 47)).drew := Chg.refl _ _
              repeat
                (with_reducible show wpX _ _ _ _ _ _ _ _
                 first
                   | refine wpX_nil ?_
                   | refine wpX_skip rfl ?_
                   | refine wpX_mv rfl rfl (by kernel_rfl) (fun _ _ => ?_)
                   | refine wpX_ldC rfl rfl rfl (by first | exact HZL.out | exact HZO.out) (by assumption) (fun _ _ => ?_)
                   | refine wpX_ef' rfl rfl rfl (fun _ _ => ?_)
                 go_wp2_with fail)
              refine (HB1.out _).mono ?_; rintro _ _ ⟨rfl, hw⟩; have hS := Chg.then (by assumption) hw; have hk := Chg.cells hS HSZ.out (by simp); have hk2 := Chg.cells hS HSL.out (by simp); clear hw
              go_wp2_with fail
              refine And.intro (by assumption : Chg _ _ _) ?_
              repeat
                (with_reducible show wpX _ _ _ _ _ _ _ _
                 first
                   | refine wpX_nil ?_
                   | refine wpX_skip rfl ?_
                   | refine wpX_mv rfl rfl (by kernel_rfl) (fun _ _ => ?_)
                   | refine wpX_ldC rfl rfl rfl (by first | exact HZL.out | exact HZO.out) (by assumption) (fun _ _ => ?_)
                   | refine wpX_ef' rfl rfl rfl (fun _ _ => ?_)
                 go_wp2_with fail)
              refine (HB2.out _).mono ?_; rintro _ _ ⟨rfl, hw⟩; have hS := Chg.then (by assumption) hw; have hk := Chg.cells hS HSZ.out (by simp); have hk2 := Chg.cells hS HSL.out (by simp); clear hw
              go_wp2_with fail
              refine And.intro (by assumption : Chg _ _ _) ?_
              repeat
                (with_reducible show wpX _ _ _ _ _ _ _ _
                 first
                   | refine wpX_nil ?_
                   | refine wpX_skip rfl ?_
                   | refine wpX_mv rfl rfl (by kernel_rfl) (fun _ _ => ?_)
                   | refine wpX_ldC rfl rfl rfl (by first | exact HZL.out | exact HZO.out) (by assumption) (fun _ _ => ?_)
                   | refine wpX_ef' rfl rfl rfl (fun _ _ => ?_)
                 go_wp2_with fail)
              refine (HB3.out _).mono ?_; rintro _ _ ⟨rfl, hw⟩; have hS := Chg.then (by assumption) hw; have hk := Chg.cells hS HSZ.out (by simp); have hk2 := Chg.cells hS HSL.out (by simp); clear hw
              go_wp2_with fail
              refine And.intro (by assumption : Chg _ _ _) ?_
              repeat
                (with_reducible show wpX _ _ _ _ _ _ _ _
                 first
                   | refine wpX_nil ?_
                   | refine wpX_skip rfl ?_
                   | refine wpX_mv rfl rfl (by kernel_rfl) (fun _ _ => ?_)
                   | refine wpX_ldC rfl rfl rfl (by first | exact HZL.out | exact HZO.out) (by assumption) (fun _ _ => ?_)
                   | refine wpX_ef' rfl rfl rfl (fun _ _ => ?_)
                 go_wp2_with fail)
              go_roundw
              case rel => exact ⟨k + 1, by omega, by go_num, all_next HX.out TH.out HALL.out, ((HC.out.alloc _).drew).then hS⟩
              case measure => simp [intOf]; omega
          · have hkn : k = o.procs.length := by omega
            have HA_procs := Lib.hid (show o.procs.all (entOK o.code.length) = true by have := HALL.out; rwa [hkn, List.take_length] at this)
            have HC0 := Lib.hid hc
            have h_2 : wr.cell? ⟨b, off + 2, none⟩ = _ := hc.cellSome H.out.c2 (by simp)
            have h_3 : wr.cell? ⟨b, off + 3, none⟩ = _ := hc.cellSome H.out.c3 (by simp)
            have h_4 : wr.cell? ⟨b, off + 4, none⟩ = _ := hc.cellSome H.out.c4 (by simp)
            have h_6 : wr.cell? ⟨b, off + 6, none⟩ = _ := hc.cellSome H.out.c6 (by simp)
            dsimp only at h_2 h_3 h_4 h_6
            clear hc hk hkn HALL
            go_wp2_with fail
            clear h_2 h_3 h_4 h_6 hlt
            go_loopw [12, 13, 221] (fun _ _ i wr => ∃ k : Nat, k ≤ o.code.length ∧ i = .int .i64 k ∧ (o.code.take k).all (instOK o) = true ∧ Chg [] w wr ∧ (k = o.code.length → lastOK o.code = true)) (fun _ _ i _ => o.code.length - (intOf i).toNat)
            case atStart => exact ⟨0, Nat.zero_le _, rfl, by simp, HC0.out, fun e => absurd e (by omega)⟩
            case round =>
            obtain ⟨k, hk, rfl, hall, hc, hlo⟩ := hrel
            have HALL := Lib.hid hall; clear hall
            by_cases hlt : k < o.code.length
            · obtain ⟨x, hx⟩ : ∃ x, o.code[k]? = some x := ⟨o.code[k], by simp [hlt]⟩
              have hat : At w ca (o.code.flatMap InstD.cells) := H.out.c
              obtain ⟨bb, boff, rfl, hcell⟩ := hat (by rw [flat_len _ 3 (fun _ => rfl)]; omega)
              have hcs : ∀ j, j < 3 → wr.cell? ⟨bb, boff + (k * 3 + j), none⟩ = (InstD.cells x)[j]? := fun j hj => by
                have h1 := flat_get InstD.cells 3 (fun _ => rfl) o.code k j x hx hj
                have h2 : j < (InstD.cells x).length := hj
                rw [List.getElem?_eq_getElem h2] at h1 ⊢
                exact hc.cellSome (hcell _ _ (by simpa using h1)) (by simp)
              have hc0 : wr.cell? ⟨bb, boff + k * 3, none⟩ = some (.int .i64 x.op) := hcs 0 (by omega)
              have hc1 : wr.cell? ⟨bb, boff + k * 3 + 1, none⟩ = some (.int .i64 x.a) := by have := hcs 1 (by omega); rw [← Nat.add_assoc] at this; exact this
              have hc2 : wr.cell? ⟨bb, boff + k * 3 + 2, none⟩ = some (.int .i64 x.b) := by have := hcs 2 (by omega); rw [← Nat.add_assoc] at this; exact this
              have hc_0 : wr.cell? ⟨b, off, none⟩ = _ := hc.cellSome H.out.c0 (by simp)
              have hc_6 : wr.cell? ⟨b, off + 6, none⟩ = _ := hc.cellSome H.out.c6 (by simp)
              dsimp only at hc_6
              have hltw : b < wr.heap.size := Nat.lt_of_lt_of_le H.out.blt hc.size
              have HLTW := Lib.hid hltw
              have HX := Lib.hid hx; have HC := Lib.hid hc
              clear hlo
              clear hcs hcell hx hc hat
              have hb1 := fun w' (hc' : Chg [] wr w') => rinst_any B b off o _ x w' ((H.out.kept HC.out (by simp)).kept hc' (by simp)) HS.out
              cases hi : instOK o x
              · simp only [hi] at hb1
                have HB1 := Lib.hid hb1; have TH := Lib.hid hi; clear hb1 hi
                go_wp2_with fail
                refine (HB1.out _ ((Chg.refl [] wr).alloc _)).mono ?_; rintro _ w2 ⟨rfl, hw⟩
                have hb2 := (Blk.new wr #[.int .i64 x.op, .int .i64 x.a, .int .i64 x.b] 49).kept hw (by simp)
                have hl0 := hb2.cell 0 _ rfl
                have hc_6 := (((Chg.refl [] wr).alloc (.cells #[.int .i64 x.op, .int .i64 x.a, .int .i64 x.b] 49)).then hw).cellSome hc_6 (by simp)
                have HW := Lib.hid hw; clear hw hb2
                go_wp2_with fail
                go_ret
                rw [right_no (.inr <| .inr <| .inr <| .inr <| .inr <| .inl <| (all_no HX.out TH.out))]
                exact ⟨rfl, (HC.out.alloc _).then HW.out⟩
              · simp only [hi] at hb1
                cases hl : ((k : Int) == (o.code.length : Int) - 1)
                · have hkl : k + 1 ≠ o.code.length := by simp at hl; omega
                  have HB1 := Lib.hid hb1; have TH := Lib.hid hi; clear hb1 hi
                  go_wp2_with fail
                  refine (HB1.out _ ((Chg.refl [] wr).alloc _)).mono ?_; rintro _ w2 ⟨rfl, hw⟩
                  have hb2 := (Blk.new wr #[.int .i64 x.op, .int .i64 x.a, .int .i64 x.b] 49).kept hw (by simp)
                  have hl0 := hb2.cell 0 _ rfl
                  have hc_6 := (((Chg.refl [] wr).alloc (.cells #[.int .i64 x.op, .int .i64 x.a, .int .i64 x.b] 49)).then hw).cellSome hc_6 (by simp)
                  have HW := Lib.hid hw; clear hw hb2
                  go_wp2_with fail
                  go_roundw
                  case rel => exact ⟨k + 1, by omega, by go_num, all_next HX.out TH.out HALL.out, (HC.out.alloc _).then HW.out, fun e => absurd e hkl⟩
                  case measure => simp [intOf]; omega
                · have hkl : k + 1 = o.code.length := by simp at hl; omega
                  have hlast := last_is HX.out hkl
                  cases t1 : (x.op != 12)
                  · have HL := Lib.hid (show lastOK o.code = true by rw [hlast]; simp at t1; simp [t1])
                    clear hlast
                    have HB1 := Lib.hid hb1; have TH := Lib.hid hi; clear hb1 hi
                    go_wp2_with fail
                    refine (HB1.out _ ((Chg.refl [] wr).alloc _)).mono ?_; rintro _ w2 ⟨rfl, hw⟩
                    have hb2 := (Blk.new wr #[.int .i64 x.op, .int .i64 x.a, .int .i64 x.b] 49).kept hw (by simp)
                    have hl0 := hb2.cell 0 _ rfl
                    have hc_6 := (((Chg.refl [] wr).alloc (.cells #[.int .i64 x.op, .int .i64 x.a, .int .i64 x.b] 49)).then hw).cellSome hc_6 (by simp)
                    have HW := Lib.hid hw; clear hw hb2
                    go_wp2_with fail
                    go_roundw
                    case rel => exact ⟨k + 1, by omega, by go_num, all_next HX.out TH.out HALL.out, (HC.out.alloc _).then HW.out, fun _ => HL.out⟩
                    case measure => simp [intOf]; omega
                  · cases t2 : (x.op != 15)
                    · have HL := Lib.hid (show lastOK o.code = true by rw [hlast]; simp at t2; simp [t2])
                      clear hlast
                      have HB1 := Lib.hid hb1; have TH := Lib.hid hi; clear hb1 hi
                      go_wp2_with fail
                      refine (HB1.out _ ((Chg.refl [] wr).alloc _)).mono ?_; rintro _ w2 ⟨rfl, hw⟩
                      have hb2 := (Blk.new wr #[.int .i64 x.op, .int .i64 x.a, .int .i64 x.b] 49).kept hw (by simp)
                      have hl0 := hb2.cell 0 _ rfl
                      have hc_6 := (((Chg.refl [] wr).alloc (.cells #[.int .i64 x.op, .int .i64 x.a, .int .i64 x.b] 49)).then hw).cellSome hc_6 (by simp)
                      have HW := Lib.hid hw; clear hw hb2
                      go_wp2_with fail
                      go_roundw
                      case rel => exact ⟨k + 1, by omega, by go_num, all_next HX.out TH.out HALL.out, (HC.out.alloc _).then HW.out, fun _ => HL.out⟩
                      case measure => simp [intOf]; omega
                    · cases t3 : (x.op != 17)
                      · have HL := Lib.hid (show lastOK o.code = true by rw [hlast]; simp at t3; simp [t3])
                        clear hlast
                        have HB1 := Lib.hid hb1; have TH := Lib.hid hi; clear hb1 hi
                        go_wp2_with fail
                        refine (HB1.out _ ((Chg.refl [] wr).alloc _)).mono ?_; rintro _ w2 ⟨rfl, hw⟩
                        have hb2 := (Blk.new wr #[.int .i64 x.op, .int .i64 x.a, .int .i64 x.b] 49).kept hw (by simp)
                        have hl0 := hb2.cell 0 _ rfl
                        have hc_6 := (((Chg.refl [] wr).alloc (.cells #[.int .i64 x.op, .int .i64 x.a, .int .i64 x.b] 49)).then hw).cellSome hc_6 (by simp)
                        have HW := Lib.hid hw; clear hw hb2
                        go_wp2_with fail
                        go_roundw
                        case rel => exact ⟨k + 1, by omega, by go_num, all_next HX.out TH.out HALL.out, (HC.out.alloc _).then HW.out, fun _ => HL.out⟩
                        case measure => simp [intOf]; omega
                      · have HL := Lib.hid (show lastOK o.code = false by rw [hlast]; simp at t1 t2 t3; simp [t1, t2, t3])
                        clear hlast
                        have HB1 := Lib.hid hb1; have TH := Lib.hid hi; clear hb1 hi
                        go_wp2_with fail
                        refine (HB1.out _ ((Chg.refl [] wr).alloc _)).mono ?_; rintro _ w2 ⟨rfl, hw⟩
                        have hb2 := (Blk.new wr #[.int .i64 x.op, .int .i64 x.a, .int .i64 x.b] 49).kept hw (by simp)
                        have hl0 := hb2.cell 0 _ rfl
                        have hc_6 := (((Chg.refl [] wr).alloc (.cells #[.int .i64 x.op, .int .i64 x.a, .int .i64 x.b] 49)).then hw).cellSome hc_6 (by simp)
                        have HW := Lib.hid hw; clear hw hb2
                        go_wp2_with fail
                        go_ret
                        rw [right_no (.inr <| .inr <| .inr <| .inr <| .inr <| .inr <| HL.out)]
                        exact ⟨rfl, (HC.out.alloc _).then HW.out⟩
            · have hkn : k = o.code.length := by omega
              have HA_code := Lib.hid (show o.code.all (instOK o) = true by have := HALL.out; rwa [hkn, List.take_length] at this)
              have HLO := Lib.hid (hlo hkn); clear hlo
              have HC0 := Lib.hid hc
              have h_2 : wr.cell? ⟨b, off + 2, none⟩ = _ := hc.cellSome H.out.c2 (by simp)
              have h_3 : wr.cell? ⟨b, off + 3, none⟩ = _ := hc.cellSome H.out.c3 (by simp)
              have h_4 : wr.cell? ⟨b, off + 4, none⟩ = _ := hc.cellSome H.out.c4 (by simp)
              have h_6 : wr.cell? ⟨b, off + 6, none⟩ = _ := hc.cellSome H.out.c6 (by simp)
              dsimp only at h_2 h_3 h_4 h_6
              clear hc hk hkn HALL
              go_wp2_with fail
              clear h_2 h_3 h_4 h_6 hlt
              go_ret
              rw [right_yes HTH.out HA_syms.out HA_uses.out HA_vars.out HA_procs.out HA_code.out HLO.out]
              exact ⟨rfl, HC0.out⟩
end Go.Proofs.YtjgfclhempjinaaGreatDoor
