/- marquetrykeep.small, of an object (laid by gen_w13.py). -/
import Derived.Test.YtjgfclhempjinaaDoorObjW12
namespace Go.Proofs.YtjgfclhempjinaaDoor
open Go Go.RowKit Go.Mq Go.Mq.Obj
set_option maxRecDepth 100000

/-- What small answers: if true, the object is small. -/
def Small (o : ObjD) (w : World) (e : Ending) (w' : World) : Prop := ∃ r, e = .returned (.bool r) ∧ (r = true → o.small) ∧ Chg [] w w'

theorem small_nil (w : World) : Calls Tryd.prog 5 #[.pointer none] w (fun e w' => e = .returned (.bool true) ∧ Chg [] w w') := by
  go_enter Tryd.func5, Tryd.ntmps5
  go_wp2_with fail
  go_ret
  exact ⟨rfl, Chg.refl _ _⟩

set_option maxHeartbeats 8000000 in
theorem small_any (B b off : Nat) (o : ObjD) (M : ObjM) (w : World) (h : ObjAt w B b off o M) (hs : o.held) (hB : B ≤ w.heap.size) :
    Calls Tryd.prog 5 #[.pointer (some ⟨b, off, none⟩)] w (Small o w) := by
  obtain ⟨sa, ua, va, pa, na, ca, sc, uc, vc, pc, nc, cc, us⟩ := M
  have h0 := h.c0
  have h1 := h.c1
  have h2 := h.c2
  have h3 := h.c3
  have h4 := h.c4
  have h5 := h.c5
  have h6 := h.c6
  dsimp only at h1 h2 h3 h4 h5 h6
  have hz1 := hs.syms.1
  have hz2 := hs.uses.1
  have hz3 := hs.vars.1
  have hz4 := hs.procs
  have hz5 := hs.names.1
  have hz6 := hs.code
  have hlt := h.blt
  have hL := (fun w' => long_any o.name w' hs.name)
  have hN := (fun w' (h9 : o.names.length ≤ 1099511627776) (hc' : Chg [] w w') => any_long na o.names.length nc o.names longK w' rfl h9 (by have := h.n.kept hc' (by simp); rw [map_flat] at this; exact this) (fun x hx w2 _ => long_any x w2 (hs.names.2 x hx)))
  have hS := (fun w' bo (h9 : o.syms.length ≤ 1099511627776) (hc' : Chg [] w w') (hcl : w'.cell? ⟨bo, 0, none⟩ = (some (.func (.func 14) #[] #[]))) => any_lsym bo sa o.syms.length sc o.syms (fun x => longK x.name) w' rfl h9 (h.s.kept hc' (by simp)) (fun x hx w2 hc2 => small2_any x bo w2 (hs.syms.2 x hx) (hc2.cellSome hcl (by simp))))
  have hV := (fun w' bo (h9 : o.vars.length ≤ 1099511627776) (hc' : Chg [] w w') (hcl : w'.cell? ⟨bo, 0, none⟩ = (some (.func (.func 14) #[] #[]))) => any_lglob bo va o.vars.length vc o.vars (fun x => longK x.name) w' rfl h9 (h.v.kept hc' (by simp)) (fun x hx w2 hc2 => small3_any x bo w2 (hs.vars.2 x hx) (hc2.cellSome hcl (by simp))))
  have hus : ∀ m ∈ us, m.u ∈ o.uses := fun m hm => by rw [← h.us]; exact List.mem_map_of_mem hm
  have hul : us.length = o.uses.length := by rw [← h.us, List.length_map]
  have hua : us.any (fun m => longU m.u) = o.uses.any longU := by rw [← h.us, List.any_map]; rfl
  have hU := (fun w' bo (h9 : o.uses.length ≤ 1099511627776) (hc' : Chg [] w w') (hcl : w'.cell? ⟨bo, 0, none⟩ = (some (.func (.func 14) #[] #[]))) => any_luse bo ua o.uses.length uc us (fun m => longU m.u) w' hul.symm h9 (h.u.kept hc' (by simp)) (fun m hm w2 hc2 =>
    small4_any m bo w2 (hs.uses.2 _ (hus m hm)).1 (hs.uses.2 _ (hus m hm)).2.1 (hs.uses.2 _ (hus m hm)).2.2.1 (hs.uses.2 _ (hus m hm)).2.2.2 ((h.un m hm).1.kept (hc'.then hc2) (by simp)) (hc2.cellSome hcl (by simp))))
  rw [hua] at hU
  have HLT := Lib.hid hlt
  have H := Lib.hid h; have HS := Lib.hid hs
  have HL := Lib.hid hL; have HN := Lib.hid hN; have HY := Lib.hid hS; have HV := Lib.hid hV; have HU := Lib.hid hU
  clear h hs hL hN hS hV hU hua hul hus
  have eL := (fun w' => HL.out w')
  clear eL
  cases t1 : longK o.name
  case true =>
    have HT1 := Lib.hid t1
    have hL := HL.out
    rw [t1] at hL
    have HL := Lib.hid hL; clear hL
    go_enter Tryd.func5, Tryd.ntmps5
    go_wp2_with fail
    obtain ⟨W0, hW0⟩ : ∃ W, w.alloc (.cells #[.func (.func 14) #[] #[]] 49) = W := ⟨_, rfl⟩
    have hcw : Chg [] w W0 := by rw [← hW0]; exact (Chg.refl [] w).alloc _
    have hcl : W0.cell? ⟨w.heap.size, 0, none⟩ = (some (.func (.func 14) #[] #[])) := by
      rw [← hW0]
      exact (Blk.new w #[.func (.func 14) #[] #[]] 49).cell 0 _ rfl
    rw [hW0]
    obtain ⟨bl, hbl⟩ : ∃ n, w.heap.size = n := ⟨_, rfl⟩
    rw [hbl] at hcl ⊢
    have HCW0 := Lib.hid hcw
    have hg0 := hcw.cellSome H.out.c0 (by simp)
    have hg1 := hcw.cellSome H.out.c1 (by simp)
    have hg2 := hcw.cellSome H.out.c2 (by simp)
    have hg3 := hcw.cellSome H.out.c3 (by simp)
    have hg4 := hcw.cellSome H.out.c4 (by simp)
    have hg5 := hcw.cellSome H.out.c5 (by simp)
    have hg6 := hcw.cellSome H.out.c6 (by simp)
    dsimp only at hg1 hg2 hg3 hg4 hg5 hg6
    have HZ := Lib.hid (Zone.of (X := []) (w0 := W0.drew) (off := off) (b := b) hg0 (by simp))
    have HZL := Lib.hid (Zone.of (X := []) (w0 := W0.drew) (off := 0) (b := bl) hcl (by simp))
    have HLTB := Lib.hid (show b < W0.drew.heap.size from lt_of_cell hg0)
    have HLTL := Lib.hid (show bl < W0.drew.heap.size from lt_of_cell hcl)
    have HCL0 := Lib.hid (show W0.drew.cell? ⟨bl, 0, none⟩ = (some (.func (.func 14) #[] #[])) from hcl)
    clear hbl hW0 hcw
    clear h0 h1 h2 h3 h4 h5 h6 hlt
    refine wp_region_C [] rfl (by kernel_rfl) ?_
    have hS : Chg [] W0.drew W0.drew := Chg.refl _ _
    repeat
      (with_reducible show wpX _ _ _ _ _ _ _ _
       first
         | refine wpX_nil ?_
         | refine wpX_skip rfl ?_
         | refine wpX_mv rfl rfl (by kernel_rfl) (fun _ _ => ?_)
         | refine wpX_ldC rfl rfl rfl (by first | exact HZ.out | exact HZL.out) (by assumption) (fun _ _ => ?_)
         | refine wpX_ef' rfl rfl rfl (fun _ _ => ?_)
       go_wp2_with fail)
    refine (HL.out _).mono ?_; rintro _ w1 ⟨rfl, hw⟩
    have hS := hw
    have HCS := Lib.hid hS

    have hk := Chg.cells hS HLTB.out (by simp)
    have hkl := Chg.cells hS HLTL.out (by simp)
    clear hw
    go_wp2_with fail
    refine And.intro HCS.out ?_
    repeat
      (with_reducible show wpX _ _ _ _ _ _ _ _
       first
         | refine wpX_nil ?_
         | refine wpX_skip rfl ?_
         | refine wpX_mv rfl rfl (by kernel_rfl) (fun _ _ => ?_)
         | refine wpX_ldC rfl rfl rfl (by first | exact HZ.out | exact HZL.out) (by assumption) (fun _ _ => ?_)
         | refine wpX_ef' rfl rfl rfl (fun _ _ => ?_)
       go_wp2_with fail)
    go_ret
    exact ⟨false, by simp, by simp, HCW0.out.drew.then HCS.out⟩
  case false =>
  cases t2 : decide ((o.syms.length : Int) ≤ 30)
  case false =>
    have HT1 := Lib.hid t1
    have HT2 := Lib.hid t2
    have hL := HL.out
    rw [t1] at hL
    have HL := Lib.hid hL; clear hL
    go_enter Tryd.func5, Tryd.ntmps5
    go_wp2_with fail
    obtain ⟨W0, hW0⟩ : ∃ W, w.alloc (.cells #[.func (.func 14) #[] #[]] 49) = W := ⟨_, rfl⟩
    have hcw : Chg [] w W0 := by rw [← hW0]; exact (Chg.refl [] w).alloc _
    have hcl : W0.cell? ⟨w.heap.size, 0, none⟩ = (some (.func (.func 14) #[] #[])) := by
      rw [← hW0]
      exact (Blk.new w #[.func (.func 14) #[] #[]] 49).cell 0 _ rfl
    rw [hW0]
    obtain ⟨bl, hbl⟩ : ∃ n, w.heap.size = n := ⟨_, rfl⟩
    rw [hbl] at hcl ⊢
    have HCW0 := Lib.hid hcw
    have hg0 := hcw.cellSome H.out.c0 (by simp)
    have hg1 := hcw.cellSome H.out.c1 (by simp)
    have hg2 := hcw.cellSome H.out.c2 (by simp)
    have hg3 := hcw.cellSome H.out.c3 (by simp)
    have hg4 := hcw.cellSome H.out.c4 (by simp)
    have hg5 := hcw.cellSome H.out.c5 (by simp)
    have hg6 := hcw.cellSome H.out.c6 (by simp)
    dsimp only at hg1 hg2 hg3 hg4 hg5 hg6
    have HZ := Lib.hid (Zone.of (X := []) (w0 := W0.drew) (off := off) (b := b) hg0 (by simp))
    have HZL := Lib.hid (Zone.of (X := []) (w0 := W0.drew) (off := 0) (b := bl) hcl (by simp))
    have HLTB := Lib.hid (show b < W0.drew.heap.size from lt_of_cell hg0)
    have HLTL := Lib.hid (show bl < W0.drew.heap.size from lt_of_cell hcl)
    have HCL0 := Lib.hid (show W0.drew.cell? ⟨bl, 0, none⟩ = (some (.func (.func 14) #[] #[])) from hcl)
    clear hbl hW0 hcw
    clear h0 h1 h2 h3 h4 h5 h6 hlt
    refine wp_region_C [] rfl (by kernel_rfl) ?_
    have hS : Chg [] W0.drew W0.drew := Chg.refl _ _
    repeat
      (with_reducible show wpX _ _ _ _ _ _ _ _
       first
         | refine wpX_nil ?_
         | refine wpX_skip rfl ?_
         | refine wpX_mv rfl rfl (by kernel_rfl) (fun _ _ => ?_)
         | refine wpX_ldC rfl rfl rfl (by first | exact HZ.out | exact HZL.out) (by assumption) (fun _ _ => ?_)
         | refine wpX_ef' rfl rfl rfl (fun _ _ => ?_)
       go_wp2_with fail)
    refine (HL.out _).mono ?_; rintro _ w1 ⟨rfl, hw⟩
    have hS := hw
    have HCS := Lib.hid hS

    have hk := Chg.cells hS HLTB.out (by simp)
    have hkl := Chg.cells hS HLTL.out (by simp)
    clear hw
    go_wp2_with fail
    refine And.intro HCS.out ?_
    repeat
      (with_reducible show wpX _ _ _ _ _ _ _ _
       first
         | refine wpX_nil ?_
         | refine wpX_skip rfl ?_
         | refine wpX_mv rfl rfl (by kernel_rfl) (fun _ _ => ?_)
         | refine wpX_ldC rfl rfl rfl (by first | exact HZ.out | exact HZL.out) (by assumption) (fun _ _ => ?_)
         | refine wpX_ef' rfl rfl rfl (fun _ _ => ?_)
       go_wp2_with fail)
    go_ret
    exact ⟨false, by simp, by simp, HCW0.out.drew.then HCS.out⟩
  case true =>
  cases t3 : decide ((o.uses.length : Int) ≤ 10)
  case false =>
    have HT1 := Lib.hid t1
    have HT2 := Lib.hid t2
    have HT3 := Lib.hid t3
    have hL := HL.out
    rw [t1] at hL
    have HL := Lib.hid hL; clear hL
    go_enter Tryd.func5, Tryd.ntmps5
    go_wp2_with fail
    obtain ⟨W0, hW0⟩ : ∃ W, w.alloc (.cells #[.func (.func 14) #[] #[]] 49) = W := ⟨_, rfl⟩
    have hcw : Chg [] w W0 := by rw [← hW0]; exact (Chg.refl [] w).alloc _
    have hcl : W0.cell? ⟨w.heap.size, 0, none⟩ = (some (.func (.func 14) #[] #[])) := by
      rw [← hW0]
      exact (Blk.new w #[.func (.func 14) #[] #[]] 49).cell 0 _ rfl
    rw [hW0]
    obtain ⟨bl, hbl⟩ : ∃ n, w.heap.size = n := ⟨_, rfl⟩
    rw [hbl] at hcl ⊢
    have HCW0 := Lib.hid hcw
    have hg0 := hcw.cellSome H.out.c0 (by simp)
    have hg1 := hcw.cellSome H.out.c1 (by simp)
    have hg2 := hcw.cellSome H.out.c2 (by simp)
    have hg3 := hcw.cellSome H.out.c3 (by simp)
    have hg4 := hcw.cellSome H.out.c4 (by simp)
    have hg5 := hcw.cellSome H.out.c5 (by simp)
    have hg6 := hcw.cellSome H.out.c6 (by simp)
    dsimp only at hg1 hg2 hg3 hg4 hg5 hg6
    have HZ := Lib.hid (Zone.of (X := []) (w0 := W0.drew) (off := off) (b := b) hg0 (by simp))
    have HZL := Lib.hid (Zone.of (X := []) (w0 := W0.drew) (off := 0) (b := bl) hcl (by simp))
    have HLTB := Lib.hid (show b < W0.drew.heap.size from lt_of_cell hg0)
    have HLTL := Lib.hid (show bl < W0.drew.heap.size from lt_of_cell hcl)
    have HCL0 := Lib.hid (show W0.drew.cell? ⟨bl, 0, none⟩ = (some (.func (.func 14) #[] #[])) from hcl)
    clear hbl hW0 hcw
    clear h0 h1 h2 h3 h4 h5 h6 hlt
    refine wp_region_C [] rfl (by kernel_rfl) ?_
    have hS : Chg [] W0.drew W0.drew := Chg.refl _ _
    repeat
      (with_reducible show wpX _ _ _ _ _ _ _ _
       first
         | refine wpX_nil ?_
         | refine wpX_skip rfl ?_
         | refine wpX_mv rfl rfl (by kernel_rfl) (fun _ _ => ?_)
         | refine wpX_ldC rfl rfl rfl (by first | exact HZ.out | exact HZL.out) (by assumption) (fun _ _ => ?_)
         | refine wpX_ef' rfl rfl rfl (fun _ _ => ?_)
       go_wp2_with fail)
    refine (HL.out _).mono ?_; rintro _ w1 ⟨rfl, hw⟩
    have hS := hw
    have HCS := Lib.hid hS

    have hk := Chg.cells hS HLTB.out (by simp)
    have hkl := Chg.cells hS HLTL.out (by simp)
    clear hw
    go_wp2_with fail
    refine And.intro HCS.out ?_
    repeat
      (with_reducible show wpX _ _ _ _ _ _ _ _
       first
         | refine wpX_nil ?_
         | refine wpX_skip rfl ?_
         | refine wpX_mv rfl rfl (by kernel_rfl) (fun _ _ => ?_)
         | refine wpX_ldC rfl rfl rfl (by first | exact HZ.out | exact HZL.out) (by assumption) (fun _ _ => ?_)
         | refine wpX_ef' rfl rfl rfl (fun _ _ => ?_)
       go_wp2_with fail)
    go_ret
    exact ⟨false, by simp, by simp, HCW0.out.drew.then HCS.out⟩
  case true =>
  cases t4 : decide ((o.vars.length : Int) ≤ 15)
  case false =>
    have HT1 := Lib.hid t1
    have HT2 := Lib.hid t2
    have HT3 := Lib.hid t3
    have HT4 := Lib.hid t4
    have hL := HL.out
    rw [t1] at hL
    have HL := Lib.hid hL; clear hL
    go_enter Tryd.func5, Tryd.ntmps5
    go_wp2_with fail
    obtain ⟨W0, hW0⟩ : ∃ W, w.alloc (.cells #[.func (.func 14) #[] #[]] 49) = W := ⟨_, rfl⟩
    have hcw : Chg [] w W0 := by rw [← hW0]; exact (Chg.refl [] w).alloc _
    have hcl : W0.cell? ⟨w.heap.size, 0, none⟩ = (some (.func (.func 14) #[] #[])) := by
      rw [← hW0]
      exact (Blk.new w #[.func (.func 14) #[] #[]] 49).cell 0 _ rfl
    rw [hW0]
    obtain ⟨bl, hbl⟩ : ∃ n, w.heap.size = n := ⟨_, rfl⟩
    rw [hbl] at hcl ⊢
    have HCW0 := Lib.hid hcw
    have hg0 := hcw.cellSome H.out.c0 (by simp)
    have hg1 := hcw.cellSome H.out.c1 (by simp)
    have hg2 := hcw.cellSome H.out.c2 (by simp)
    have hg3 := hcw.cellSome H.out.c3 (by simp)
    have hg4 := hcw.cellSome H.out.c4 (by simp)
    have hg5 := hcw.cellSome H.out.c5 (by simp)
    have hg6 := hcw.cellSome H.out.c6 (by simp)
    dsimp only at hg1 hg2 hg3 hg4 hg5 hg6
    have HZ := Lib.hid (Zone.of (X := []) (w0 := W0.drew) (off := off) (b := b) hg0 (by simp))
    have HZL := Lib.hid (Zone.of (X := []) (w0 := W0.drew) (off := 0) (b := bl) hcl (by simp))
    have HLTB := Lib.hid (show b < W0.drew.heap.size from lt_of_cell hg0)
    have HLTL := Lib.hid (show bl < W0.drew.heap.size from lt_of_cell hcl)
    have HCL0 := Lib.hid (show W0.drew.cell? ⟨bl, 0, none⟩ = (some (.func (.func 14) #[] #[])) from hcl)
    clear hbl hW0 hcw
    clear h0 h1 h2 h3 h4 h5 h6 hlt
    refine wp_region_C [] rfl (by kernel_rfl) ?_
    have hS : Chg [] W0.drew W0.drew := Chg.refl _ _
    repeat
      (with_reducible show wpX _ _ _ _ _ _ _ _
       first
         | refine wpX_nil ?_
         | refine wpX_skip rfl ?_
         | refine wpX_mv rfl rfl (by kernel_rfl) (fun _ _ => ?_)
         | refine wpX_ldC rfl rfl rfl (by first | exact HZ.out | exact HZL.out) (by assumption) (fun _ _ => ?_)
         | refine wpX_ef' rfl rfl rfl (fun _ _ => ?_)
       go_wp2_with fail)
    refine (HL.out _).mono ?_; rintro _ w1 ⟨rfl, hw⟩
    have hS := hw
    have HCS := Lib.hid hS

    have hk := Chg.cells hS HLTB.out (by simp)
    have hkl := Chg.cells hS HLTL.out (by simp)
    clear hw
    go_wp2_with fail
    refine And.intro HCS.out ?_
    repeat
      (with_reducible show wpX _ _ _ _ _ _ _ _
       first
         | refine wpX_nil ?_
         | refine wpX_skip rfl ?_
         | refine wpX_mv rfl rfl (by kernel_rfl) (fun _ _ => ?_)
         | refine wpX_ldC rfl rfl rfl (by first | exact HZ.out | exact HZL.out) (by assumption) (fun _ _ => ?_)
         | refine wpX_ef' rfl rfl rfl (fun _ _ => ?_)
       go_wp2_with fail)
    go_ret
    exact ⟨false, by simp, by simp, HCW0.out.drew.then HCS.out⟩
  case true =>
  cases t5 : decide ((o.procs.length : Int) ≤ 15)
  case false =>
    have HT1 := Lib.hid t1
    have HT2 := Lib.hid t2
    have HT3 := Lib.hid t3
    have HT4 := Lib.hid t4
    have HT5 := Lib.hid t5
    have hL := HL.out
    rw [t1] at hL
    have HL := Lib.hid hL; clear hL
    go_enter Tryd.func5, Tryd.ntmps5
    go_wp2_with fail
    obtain ⟨W0, hW0⟩ : ∃ W, w.alloc (.cells #[.func (.func 14) #[] #[]] 49) = W := ⟨_, rfl⟩
    have hcw : Chg [] w W0 := by rw [← hW0]; exact (Chg.refl [] w).alloc _
    have hcl : W0.cell? ⟨w.heap.size, 0, none⟩ = (some (.func (.func 14) #[] #[])) := by
      rw [← hW0]
      exact (Blk.new w #[.func (.func 14) #[] #[]] 49).cell 0 _ rfl
    rw [hW0]
    obtain ⟨bl, hbl⟩ : ∃ n, w.heap.size = n := ⟨_, rfl⟩
    rw [hbl] at hcl ⊢
    have HCW0 := Lib.hid hcw
    have hg0 := hcw.cellSome H.out.c0 (by simp)
    have hg1 := hcw.cellSome H.out.c1 (by simp)
    have hg2 := hcw.cellSome H.out.c2 (by simp)
    have hg3 := hcw.cellSome H.out.c3 (by simp)
    have hg4 := hcw.cellSome H.out.c4 (by simp)
    have hg5 := hcw.cellSome H.out.c5 (by simp)
    have hg6 := hcw.cellSome H.out.c6 (by simp)
    dsimp only at hg1 hg2 hg3 hg4 hg5 hg6
    have HZ := Lib.hid (Zone.of (X := []) (w0 := W0.drew) (off := off) (b := b) hg0 (by simp))
    have HZL := Lib.hid (Zone.of (X := []) (w0 := W0.drew) (off := 0) (b := bl) hcl (by simp))
    have HLTB := Lib.hid (show b < W0.drew.heap.size from lt_of_cell hg0)
    have HLTL := Lib.hid (show bl < W0.drew.heap.size from lt_of_cell hcl)
    have HCL0 := Lib.hid (show W0.drew.cell? ⟨bl, 0, none⟩ = (some (.func (.func 14) #[] #[])) from hcl)
    clear hbl hW0 hcw
    clear h0 h1 h2 h3 h4 h5 h6 hlt
    refine wp_region_C [] rfl (by kernel_rfl) ?_
    have hS : Chg [] W0.drew W0.drew := Chg.refl _ _
    repeat
      (with_reducible show wpX _ _ _ _ _ _ _ _
       first
         | refine wpX_nil ?_
         | refine wpX_skip rfl ?_
         | refine wpX_mv rfl rfl (by kernel_rfl) (fun _ _ => ?_)
         | refine wpX_ldC rfl rfl rfl (by first | exact HZ.out | exact HZL.out) (by assumption) (fun _ _ => ?_)
         | refine wpX_ef' rfl rfl rfl (fun _ _ => ?_)
       go_wp2_with fail)
    refine (HL.out _).mono ?_; rintro _ w1 ⟨rfl, hw⟩
    have hS := hw
    have HCS := Lib.hid hS

    have hk := Chg.cells hS HLTB.out (by simp)
    have hkl := Chg.cells hS HLTL.out (by simp)
    clear hw
    go_wp2_with fail
    refine And.intro HCS.out ?_
    repeat
      (with_reducible show wpX _ _ _ _ _ _ _ _
       first
         | refine wpX_nil ?_
         | refine wpX_skip rfl ?_
         | refine wpX_mv rfl rfl (by kernel_rfl) (fun _ _ => ?_)
         | refine wpX_ldC rfl rfl rfl (by first | exact HZ.out | exact HZL.out) (by assumption) (fun _ _ => ?_)
         | refine wpX_ef' rfl rfl rfl (fun _ _ => ?_)
       go_wp2_with fail)
    go_ret
    exact ⟨false, by simp, by simp, HCW0.out.drew.then HCS.out⟩
  case true =>
  cases t6 : decide ((o.names.length : Int) ≤ 15)
  case false =>
    have HT1 := Lib.hid t1
    have HT2 := Lib.hid t2
    have HT3 := Lib.hid t3
    have HT4 := Lib.hid t4
    have HT5 := Lib.hid t5
    have HT6 := Lib.hid t6
    have hL := HL.out
    rw [t1] at hL
    have HL := Lib.hid hL; clear hL
    go_enter Tryd.func5, Tryd.ntmps5
    go_wp2_with fail
    obtain ⟨W0, hW0⟩ : ∃ W, w.alloc (.cells #[.func (.func 14) #[] #[]] 49) = W := ⟨_, rfl⟩
    have hcw : Chg [] w W0 := by rw [← hW0]; exact (Chg.refl [] w).alloc _
    have hcl : W0.cell? ⟨w.heap.size, 0, none⟩ = (some (.func (.func 14) #[] #[])) := by
      rw [← hW0]
      exact (Blk.new w #[.func (.func 14) #[] #[]] 49).cell 0 _ rfl
    rw [hW0]
    obtain ⟨bl, hbl⟩ : ∃ n, w.heap.size = n := ⟨_, rfl⟩
    rw [hbl] at hcl ⊢
    have HCW0 := Lib.hid hcw
    have hg0 := hcw.cellSome H.out.c0 (by simp)
    have hg1 := hcw.cellSome H.out.c1 (by simp)
    have hg2 := hcw.cellSome H.out.c2 (by simp)
    have hg3 := hcw.cellSome H.out.c3 (by simp)
    have hg4 := hcw.cellSome H.out.c4 (by simp)
    have hg5 := hcw.cellSome H.out.c5 (by simp)
    have hg6 := hcw.cellSome H.out.c6 (by simp)
    dsimp only at hg1 hg2 hg3 hg4 hg5 hg6
    have HZ := Lib.hid (Zone.of (X := []) (w0 := W0.drew) (off := off) (b := b) hg0 (by simp))
    have HZL := Lib.hid (Zone.of (X := []) (w0 := W0.drew) (off := 0) (b := bl) hcl (by simp))
    have HLTB := Lib.hid (show b < W0.drew.heap.size from lt_of_cell hg0)
    have HLTL := Lib.hid (show bl < W0.drew.heap.size from lt_of_cell hcl)
    have HCL0 := Lib.hid (show W0.drew.cell? ⟨bl, 0, none⟩ = (some (.func (.func 14) #[] #[])) from hcl)
    clear hbl hW0 hcw
    clear h0 h1 h2 h3 h4 h5 h6 hlt
    refine wp_region_C [] rfl (by kernel_rfl) ?_
    have hS : Chg [] W0.drew W0.drew := Chg.refl _ _
    repeat
      (with_reducible show wpX _ _ _ _ _ _ _ _
       first
         | refine wpX_nil ?_
         | refine wpX_skip rfl ?_
         | refine wpX_mv rfl rfl (by kernel_rfl) (fun _ _ => ?_)
         | refine wpX_ldC rfl rfl rfl (by first | exact HZ.out | exact HZL.out) (by assumption) (fun _ _ => ?_)
         | refine wpX_ef' rfl rfl rfl (fun _ _ => ?_)
       go_wp2_with fail)
    refine (HL.out _).mono ?_; rintro _ w1 ⟨rfl, hw⟩
    have hS := hw
    have HCS := Lib.hid hS

    have hk := Chg.cells hS HLTB.out (by simp)
    have hkl := Chg.cells hS HLTL.out (by simp)
    clear hw
    go_wp2_with fail
    refine And.intro HCS.out ?_
    repeat
      (with_reducible show wpX _ _ _ _ _ _ _ _
       first
         | refine wpX_nil ?_
         | refine wpX_skip rfl ?_
         | refine wpX_mv rfl rfl (by kernel_rfl) (fun _ _ => ?_)
         | refine wpX_ldC rfl rfl rfl (by first | exact HZ.out | exact HZL.out) (by assumption) (fun _ _ => ?_)
         | refine wpX_ef' rfl rfl rfl (fun _ _ => ?_)
       go_wp2_with fail)
    go_ret
    exact ⟨false, by simp, by simp, HCW0.out.drew.then HCS.out⟩
  case true =>
  cases t7 : decide ((o.code.length : Int) ≤ 80)
  case false =>
    have HT1 := Lib.hid t1
    have HT2 := Lib.hid t2
    have HT3 := Lib.hid t3
    have HT4 := Lib.hid t4
    have HT5 := Lib.hid t5
    have HT6 := Lib.hid t6
    have HT7 := Lib.hid t7
    have hL := HL.out
    rw [t1] at hL
    have HL := Lib.hid hL; clear hL
    go_enter Tryd.func5, Tryd.ntmps5
    go_wp2_with fail
    obtain ⟨W0, hW0⟩ : ∃ W, w.alloc (.cells #[.func (.func 14) #[] #[]] 49) = W := ⟨_, rfl⟩
    have hcw : Chg [] w W0 := by rw [← hW0]; exact (Chg.refl [] w).alloc _
    have hcl : W0.cell? ⟨w.heap.size, 0, none⟩ = (some (.func (.func 14) #[] #[])) := by
      rw [← hW0]
      exact (Blk.new w #[.func (.func 14) #[] #[]] 49).cell 0 _ rfl
    rw [hW0]
    obtain ⟨bl, hbl⟩ : ∃ n, w.heap.size = n := ⟨_, rfl⟩
    rw [hbl] at hcl ⊢
    have HCW0 := Lib.hid hcw
    have hg0 := hcw.cellSome H.out.c0 (by simp)
    have hg1 := hcw.cellSome H.out.c1 (by simp)
    have hg2 := hcw.cellSome H.out.c2 (by simp)
    have hg3 := hcw.cellSome H.out.c3 (by simp)
    have hg4 := hcw.cellSome H.out.c4 (by simp)
    have hg5 := hcw.cellSome H.out.c5 (by simp)
    have hg6 := hcw.cellSome H.out.c6 (by simp)
    dsimp only at hg1 hg2 hg3 hg4 hg5 hg6
    have HZ := Lib.hid (Zone.of (X := []) (w0 := W0.drew) (off := off) (b := b) hg0 (by simp))
    have HZL := Lib.hid (Zone.of (X := []) (w0 := W0.drew) (off := 0) (b := bl) hcl (by simp))
    have HLTB := Lib.hid (show b < W0.drew.heap.size from lt_of_cell hg0)
    have HLTL := Lib.hid (show bl < W0.drew.heap.size from lt_of_cell hcl)
    have HCL0 := Lib.hid (show W0.drew.cell? ⟨bl, 0, none⟩ = (some (.func (.func 14) #[] #[])) from hcl)
    clear hbl hW0 hcw
    clear h0 h1 h2 h3 h4 h5 h6 hlt
    refine wp_region_C [] rfl (by kernel_rfl) ?_
    have hS : Chg [] W0.drew W0.drew := Chg.refl _ _
    repeat
      (with_reducible show wpX _ _ _ _ _ _ _ _
       first
         | refine wpX_nil ?_
         | refine wpX_skip rfl ?_
         | refine wpX_mv rfl rfl (by kernel_rfl) (fun _ _ => ?_)
         | refine wpX_ldC rfl rfl rfl (by first | exact HZ.out | exact HZL.out) (by assumption) (fun _ _ => ?_)
         | refine wpX_ef' rfl rfl rfl (fun _ _ => ?_)
       go_wp2_with fail)
    refine (HL.out _).mono ?_; rintro _ w1 ⟨rfl, hw⟩
    have hS := hw
    have HCS := Lib.hid hS

    have hk := Chg.cells hS HLTB.out (by simp)
    have hkl := Chg.cells hS HLTL.out (by simp)
    clear hw
    go_wp2_with fail
    refine And.intro HCS.out ?_
    repeat
      (with_reducible show wpX _ _ _ _ _ _ _ _
       first
         | refine wpX_nil ?_
         | refine wpX_skip rfl ?_
         | refine wpX_mv rfl rfl (by kernel_rfl) (fun _ _ => ?_)
         | refine wpX_ldC rfl rfl rfl (by first | exact HZ.out | exact HZL.out) (by assumption) (fun _ _ => ?_)
         | refine wpX_ef' rfl rfl rfl (fun _ _ => ?_)
       go_wp2_with fail)
    go_ret
    exact ⟨false, by simp, by simp, HCW0.out.drew.then HCS.out⟩
  case true =>
  cases t8 : o.names.any longK
  case true =>
    have HT1 := Lib.hid t1
    have HT2 := Lib.hid t2
    have HT3 := Lib.hid t3
    have HT4 := Lib.hid t4
    have HT5 := Lib.hid t5
    have HT6 := Lib.hid t6
    have HT7 := Lib.hid t7
    have HT8 := Lib.hid t8
    have hL := HL.out
    rw [t1] at hL
    have HL := Lib.hid hL; clear hL
    have hN := HN.out
    rw [t8] at hN
    have HN := Lib.hid hN; clear hN
    go_enter Tryd.func5, Tryd.ntmps5
    go_wp2_with fail
    obtain ⟨W0, hW0⟩ : ∃ W, w.alloc (.cells #[.func (.func 14) #[] #[]] 49) = W := ⟨_, rfl⟩
    have hcw : Chg [] w W0 := by rw [← hW0]; exact (Chg.refl [] w).alloc _
    have hcl : W0.cell? ⟨w.heap.size, 0, none⟩ = (some (.func (.func 14) #[] #[])) := by
      rw [← hW0]
      exact (Blk.new w #[.func (.func 14) #[] #[]] 49).cell 0 _ rfl
    rw [hW0]
    obtain ⟨bl, hbl⟩ : ∃ n, w.heap.size = n := ⟨_, rfl⟩
    rw [hbl] at hcl ⊢
    have HCW0 := Lib.hid hcw
    have hg0 := hcw.cellSome H.out.c0 (by simp)
    have hg1 := hcw.cellSome H.out.c1 (by simp)
    have hg2 := hcw.cellSome H.out.c2 (by simp)
    have hg3 := hcw.cellSome H.out.c3 (by simp)
    have hg4 := hcw.cellSome H.out.c4 (by simp)
    have hg5 := hcw.cellSome H.out.c5 (by simp)
    have hg6 := hcw.cellSome H.out.c6 (by simp)
    dsimp only at hg1 hg2 hg3 hg4 hg5 hg6
    have HZ := Lib.hid (Zone.of (X := []) (w0 := W0.drew) (off := off) (b := b) hg0 (by simp))
    have HZL := Lib.hid (Zone.of (X := []) (w0 := W0.drew) (off := 0) (b := bl) hcl (by simp))
    have HLTB := Lib.hid (show b < W0.drew.heap.size from lt_of_cell hg0)
    have HLTL := Lib.hid (show bl < W0.drew.heap.size from lt_of_cell hcl)
    have HCL0 := Lib.hid (show W0.drew.cell? ⟨bl, 0, none⟩ = (some (.func (.func 14) #[] #[])) from hcl)
    clear hbl hW0 hcw
    clear h0 h1 h2 h3 h4 h5 h6 hlt
    refine wp_region_C [] rfl (by kernel_rfl) ?_
    have hS : Chg [] W0.drew W0.drew := Chg.refl _ _
    repeat
      (with_reducible show wpX _ _ _ _ _ _ _ _
       first
         | refine wpX_nil ?_
         | refine wpX_skip rfl ?_
         | refine wpX_mv rfl rfl (by kernel_rfl) (fun _ _ => ?_)
         | refine wpX_ldC rfl rfl rfl (by first | exact HZ.out | exact HZL.out) (by assumption) (fun _ _ => ?_)
         | refine wpX_ef' rfl rfl rfl (fun _ _ => ?_)
       go_wp2_with fail)
    refine (HL.out _).mono ?_; rintro _ w1 ⟨rfl, hw⟩
    have hS := hw
    have HCS := Lib.hid hS

    have hk := Chg.cells hS HLTB.out (by simp)
    have hkl := Chg.cells hS HLTL.out (by simp)
    clear hw
    go_wp2_with fail
    refine And.intro HCS.out ?_
    repeat
      (with_reducible show wpX _ _ _ _ _ _ _ _
       first
         | refine wpX_nil ?_
         | refine wpX_skip rfl ?_
         | refine wpX_mv rfl rfl (by kernel_rfl) (fun _ _ => ?_)
         | refine wpX_ldC rfl rfl rfl (by first | exact HZ.out | exact HZL.out) (by assumption) (fun _ _ => ?_)
         | refine wpX_ef' rfl rfl rfl (fun _ _ => ?_)
       go_wp2_with fail)
    refine (HN.out _ (by simp at t6; omega) ((HCW0.out.drew).then HCS.out)).mono ?_; rintro _ w2 ⟨rfl, hw⟩
    have hS := HCS.out.then hw
    have HCS := Lib.hid hS
    clear hk hkl
    have hk := Chg.cells hS HLTB.out (by simp)
    have hkl := Chg.cells hS HLTL.out (by simp)
    clear hw
    go_wp2_with fail
    refine And.intro HCS.out ?_
    repeat
      (with_reducible show wpX _ _ _ _ _ _ _ _
       first
         | refine wpX_nil ?_
         | refine wpX_skip rfl ?_
         | refine wpX_mv rfl rfl (by kernel_rfl) (fun _ _ => ?_)
         | refine wpX_ldC rfl rfl rfl (by first | exact HZ.out | exact HZL.out) (by assumption) (fun _ _ => ?_)
         | refine wpX_ef' rfl rfl rfl (fun _ _ => ?_)
       go_wp2_with fail)
    go_ret
    exact ⟨false, by simp, by simp, HCW0.out.drew.then HCS.out⟩
  case false =>
  cases t9 : o.syms.any (fun x => longK x.name)
  case true =>
    have HT1 := Lib.hid t1
    have HT2 := Lib.hid t2
    have HT3 := Lib.hid t3
    have HT4 := Lib.hid t4
    have HT5 := Lib.hid t5
    have HT6 := Lib.hid t6
    have HT7 := Lib.hid t7
    have HT8 := Lib.hid t8
    have HT9 := Lib.hid t9
    have hL := HL.out
    rw [t1] at hL
    have HL := Lib.hid hL; clear hL
    have hN := HN.out
    rw [t8] at hN
    have HN := Lib.hid hN; clear hN
    have hY := HY.out
    rw [t9] at hY
    have HY := Lib.hid hY; clear hY
    go_enter Tryd.func5, Tryd.ntmps5
    go_wp2_with fail
    obtain ⟨W0, hW0⟩ : ∃ W, w.alloc (.cells #[.func (.func 14) #[] #[]] 49) = W := ⟨_, rfl⟩
    have hcw : Chg [] w W0 := by rw [← hW0]; exact (Chg.refl [] w).alloc _
    have hcl : W0.cell? ⟨w.heap.size, 0, none⟩ = (some (.func (.func 14) #[] #[])) := by
      rw [← hW0]
      exact (Blk.new w #[.func (.func 14) #[] #[]] 49).cell 0 _ rfl
    rw [hW0]
    obtain ⟨bl, hbl⟩ : ∃ n, w.heap.size = n := ⟨_, rfl⟩
    rw [hbl] at hcl ⊢
    have HCW0 := Lib.hid hcw
    have hg0 := hcw.cellSome H.out.c0 (by simp)
    have hg1 := hcw.cellSome H.out.c1 (by simp)
    have hg2 := hcw.cellSome H.out.c2 (by simp)
    have hg3 := hcw.cellSome H.out.c3 (by simp)
    have hg4 := hcw.cellSome H.out.c4 (by simp)
    have hg5 := hcw.cellSome H.out.c5 (by simp)
    have hg6 := hcw.cellSome H.out.c6 (by simp)
    dsimp only at hg1 hg2 hg3 hg4 hg5 hg6
    have HZ := Lib.hid (Zone.of (X := []) (w0 := W0.drew) (off := off) (b := b) hg0 (by simp))
    have HZL := Lib.hid (Zone.of (X := []) (w0 := W0.drew) (off := 0) (b := bl) hcl (by simp))
    have HLTB := Lib.hid (show b < W0.drew.heap.size from lt_of_cell hg0)
    have HLTL := Lib.hid (show bl < W0.drew.heap.size from lt_of_cell hcl)
    have HCL0 := Lib.hid (show W0.drew.cell? ⟨bl, 0, none⟩ = (some (.func (.func 14) #[] #[])) from hcl)
    clear hbl hW0 hcw
    clear h0 h1 h2 h3 h4 h5 h6 hlt
    refine wp_region_C [] rfl (by kernel_rfl) ?_
    have hS : Chg [] W0.drew W0.drew := Chg.refl _ _
    repeat
      (with_reducible show wpX _ _ _ _ _ _ _ _
       first
         | refine wpX_nil ?_
         | refine wpX_skip rfl ?_
         | refine wpX_mv rfl rfl (by kernel_rfl) (fun _ _ => ?_)
         | refine wpX_ldC rfl rfl rfl (by first | exact HZ.out | exact HZL.out) (by assumption) (fun _ _ => ?_)
         | refine wpX_ef' rfl rfl rfl (fun _ _ => ?_)
       go_wp2_with fail)
    refine (HL.out _).mono ?_; rintro _ w1 ⟨rfl, hw⟩
    have hS := hw
    have HCS := Lib.hid hS

    have hk := Chg.cells hS HLTB.out (by simp)
    have hkl := Chg.cells hS HLTL.out (by simp)
    clear hw
    go_wp2_with fail
    refine And.intro HCS.out ?_
    repeat
      (with_reducible show wpX _ _ _ _ _ _ _ _
       first
         | refine wpX_nil ?_
         | refine wpX_skip rfl ?_
         | refine wpX_mv rfl rfl (by kernel_rfl) (fun _ _ => ?_)
         | refine wpX_ldC rfl rfl rfl (by first | exact HZ.out | exact HZL.out) (by assumption) (fun _ _ => ?_)
         | refine wpX_ef' rfl rfl rfl (fun _ _ => ?_)
       go_wp2_with fail)
    refine (HN.out _ (by simp at t6; omega) ((HCW0.out.drew).then HCS.out)).mono ?_; rintro _ w2 ⟨rfl, hw⟩
    have hS := HCS.out.then hw
    have HCS := Lib.hid hS
    clear hk hkl
    have hk := Chg.cells hS HLTB.out (by simp)
    have hkl := Chg.cells hS HLTL.out (by simp)
    clear hw
    go_wp2_with fail
    refine And.intro HCS.out ?_
    repeat
      (with_reducible show wpX _ _ _ _ _ _ _ _
       first
         | refine wpX_nil ?_
         | refine wpX_skip rfl ?_
         | refine wpX_mv rfl rfl (by kernel_rfl) (fun _ _ => ?_)
         | refine wpX_ldC rfl rfl rfl (by first | exact HZ.out | exact HZL.out) (by assumption) (fun _ _ => ?_)
         | refine wpX_ef' rfl rfl rfl (fun _ _ => ?_)
       go_wp2_with fail)
    refine (HY.out _ bl (by simp at t2; omega) ((HCW0.out.drew).then HCS.out) (HCS.out.cellSome HCL0.out (by simp))).mono ?_; rintro _ w3 ⟨rfl, hw⟩
    have hS := HCS.out.then hw
    have HCS := Lib.hid hS
    clear hk hkl
    have hk := Chg.cells hS HLTB.out (by simp)
    have hkl := Chg.cells hS HLTL.out (by simp)
    clear hw
    go_wp2_with fail
    refine And.intro HCS.out ?_
    repeat
      (with_reducible show wpX _ _ _ _ _ _ _ _
       first
         | refine wpX_nil ?_
         | refine wpX_skip rfl ?_
         | refine wpX_mv rfl rfl (by kernel_rfl) (fun _ _ => ?_)
         | refine wpX_ldC rfl rfl rfl (by first | exact HZ.out | exact HZL.out) (by assumption) (fun _ _ => ?_)
         | refine wpX_ef' rfl rfl rfl (fun _ _ => ?_)
       go_wp2_with fail)
    go_ret
    exact ⟨false, by simp, by simp, HCW0.out.drew.then HCS.out⟩
  case false =>
  cases t10 : o.vars.any (fun x => longK x.name)
  case true =>
    have HT1 := Lib.hid t1
    have HT2 := Lib.hid t2
    have HT3 := Lib.hid t3
    have HT4 := Lib.hid t4
    have HT5 := Lib.hid t5
    have HT6 := Lib.hid t6
    have HT7 := Lib.hid t7
    have HT8 := Lib.hid t8
    have HT9 := Lib.hid t9
    have HT10 := Lib.hid t10
    have hL := HL.out
    rw [t1] at hL
    have HL := Lib.hid hL; clear hL
    have hN := HN.out
    rw [t8] at hN
    have HN := Lib.hid hN; clear hN
    have hY := HY.out
    rw [t9] at hY
    have HY := Lib.hid hY; clear hY
    have hV := HV.out
    rw [t10] at hV
    have HV := Lib.hid hV; clear hV
    go_enter Tryd.func5, Tryd.ntmps5
    go_wp2_with fail
    obtain ⟨W0, hW0⟩ : ∃ W, w.alloc (.cells #[.func (.func 14) #[] #[]] 49) = W := ⟨_, rfl⟩
    have hcw : Chg [] w W0 := by rw [← hW0]; exact (Chg.refl [] w).alloc _
    have hcl : W0.cell? ⟨w.heap.size, 0, none⟩ = (some (.func (.func 14) #[] #[])) := by
      rw [← hW0]
      exact (Blk.new w #[.func (.func 14) #[] #[]] 49).cell 0 _ rfl
    rw [hW0]
    obtain ⟨bl, hbl⟩ : ∃ n, w.heap.size = n := ⟨_, rfl⟩
    rw [hbl] at hcl ⊢
    have HCW0 := Lib.hid hcw
    have hg0 := hcw.cellSome H.out.c0 (by simp)
    have hg1 := hcw.cellSome H.out.c1 (by simp)
    have hg2 := hcw.cellSome H.out.c2 (by simp)
    have hg3 := hcw.cellSome H.out.c3 (by simp)
    have hg4 := hcw.cellSome H.out.c4 (by simp)
    have hg5 := hcw.cellSome H.out.c5 (by simp)
    have hg6 := hcw.cellSome H.out.c6 (by simp)
    dsimp only at hg1 hg2 hg3 hg4 hg5 hg6
    have HZ := Lib.hid (Zone.of (X := []) (w0 := W0.drew) (off := off) (b := b) hg0 (by simp))
    have HZL := Lib.hid (Zone.of (X := []) (w0 := W0.drew) (off := 0) (b := bl) hcl (by simp))
    have HLTB := Lib.hid (show b < W0.drew.heap.size from lt_of_cell hg0)
    have HLTL := Lib.hid (show bl < W0.drew.heap.size from lt_of_cell hcl)
    have HCL0 := Lib.hid (show W0.drew.cell? ⟨bl, 0, none⟩ = (some (.func (.func 14) #[] #[])) from hcl)
    clear hbl hW0 hcw
    clear h0 h1 h2 h3 h4 h5 h6 hlt
    refine wp_region_C [] rfl (by kernel_rfl) ?_
    have hS : Chg [] W0.drew W0.drew := Chg.refl _ _
    repeat
      (with_reducible show wpX _ _ _ _ _ _ _ _
       first
         | refine wpX_nil ?_
         | refine wpX_skip rfl ?_
         | refine wpX_mv rfl rfl (by kernel_rfl) (fun _ _ => ?_)
         | refine wpX_ldC rfl rfl rfl (by first | exact HZ.out | exact HZL.out) (by assumption) (fun _ _ => ?_)
         | refine wpX_ef' rfl rfl rfl (fun _ _ => ?_)
       go_wp2_with fail)
    refine (HL.out _).mono ?_; rintro _ w1 ⟨rfl, hw⟩
    have hS := hw
    have HCS := Lib.hid hS

    have hk := Chg.cells hS HLTB.out (by simp)
    have hkl := Chg.cells hS HLTL.out (by simp)
    clear hw
    go_wp2_with fail
    refine And.intro HCS.out ?_
    repeat
      (with_reducible show wpX _ _ _ _ _ _ _ _
       first
         | refine wpX_nil ?_
         | refine wpX_skip rfl ?_
         | refine wpX_mv rfl rfl (by kernel_rfl) (fun _ _ => ?_)
         | refine wpX_ldC rfl rfl rfl (by first | exact HZ.out | exact HZL.out) (by assumption) (fun _ _ => ?_)
         | refine wpX_ef' rfl rfl rfl (fun _ _ => ?_)
       go_wp2_with fail)
    refine (HN.out _ (by simp at t6; omega) ((HCW0.out.drew).then HCS.out)).mono ?_; rintro _ w2 ⟨rfl, hw⟩
    have hS := HCS.out.then hw
    have HCS := Lib.hid hS
    clear hk hkl
    have hk := Chg.cells hS HLTB.out (by simp)
    have hkl := Chg.cells hS HLTL.out (by simp)
    clear hw
    go_wp2_with fail
    refine And.intro HCS.out ?_
    repeat
      (with_reducible show wpX _ _ _ _ _ _ _ _
       first
         | refine wpX_nil ?_
         | refine wpX_skip rfl ?_
         | refine wpX_mv rfl rfl (by kernel_rfl) (fun _ _ => ?_)
         | refine wpX_ldC rfl rfl rfl (by first | exact HZ.out | exact HZL.out) (by assumption) (fun _ _ => ?_)
         | refine wpX_ef' rfl rfl rfl (fun _ _ => ?_)
       go_wp2_with fail)
    refine (HY.out _ bl (by simp at t2; omega) ((HCW0.out.drew).then HCS.out) (HCS.out.cellSome HCL0.out (by simp))).mono ?_; rintro _ w3 ⟨rfl, hw⟩
    have hS := HCS.out.then hw
    have HCS := Lib.hid hS
    clear hk hkl
    have hk := Chg.cells hS HLTB.out (by simp)
    have hkl := Chg.cells hS HLTL.out (by simp)
    clear hw
    go_wp2_with fail
    refine And.intro HCS.out ?_
    repeat
      (with_reducible show wpX _ _ _ _ _ _ _ _
       first
         | refine wpX_nil ?_
         | refine wpX_skip rfl ?_
         | refine wpX_mv rfl rfl (by kernel_rfl) (fun _ _ => ?_)
         | refine wpX_ldC rfl rfl rfl (by first | exact HZ.out | exact HZL.out) (by assumption) (fun _ _ => ?_)
         | refine wpX_ef' rfl rfl rfl (fun _ _ => ?_)
       go_wp2_with fail)
    refine (HV.out _ bl (by simp at t4; omega) ((HCW0.out.drew).then HCS.out) (HCS.out.cellSome HCL0.out (by simp))).mono ?_; rintro _ w4 ⟨rfl, hw⟩
    have hS := HCS.out.then hw
    have HCS := Lib.hid hS
    clear hk hkl
    have hk := Chg.cells hS HLTB.out (by simp)
    have hkl := Chg.cells hS HLTL.out (by simp)
    clear hw
    go_wp2_with fail
    refine And.intro HCS.out ?_
    repeat
      (with_reducible show wpX _ _ _ _ _ _ _ _
       first
         | refine wpX_nil ?_
         | refine wpX_skip rfl ?_
         | refine wpX_mv rfl rfl (by kernel_rfl) (fun _ _ => ?_)
         | refine wpX_ldC rfl rfl rfl (by first | exact HZ.out | exact HZL.out) (by assumption) (fun _ _ => ?_)
         | refine wpX_ef' rfl rfl rfl (fun _ _ => ?_)
       go_wp2_with fail)
    go_ret
    exact ⟨false, by simp, by simp, HCW0.out.drew.then HCS.out⟩
  case false =>
  cases t11 : o.uses.any longU
  case true =>
    have HT1 := Lib.hid t1
    have HT2 := Lib.hid t2
    have HT3 := Lib.hid t3
    have HT4 := Lib.hid t4
    have HT5 := Lib.hid t5
    have HT6 := Lib.hid t6
    have HT7 := Lib.hid t7
    have HT8 := Lib.hid t8
    have HT9 := Lib.hid t9
    have HT10 := Lib.hid t10
    have HT11 := Lib.hid t11
    have hL := HL.out
    rw [t1] at hL
    have HL := Lib.hid hL; clear hL
    have hN := HN.out
    rw [t8] at hN
    have HN := Lib.hid hN; clear hN
    have hY := HY.out
    rw [t9] at hY
    have HY := Lib.hid hY; clear hY
    have hV := HV.out
    rw [t10] at hV
    have HV := Lib.hid hV; clear hV
    have hU := HU.out
    rw [t11] at hU
    have HU := Lib.hid hU; clear hU
    go_enter Tryd.func5, Tryd.ntmps5
    go_wp2_with fail
    obtain ⟨W0, hW0⟩ : ∃ W, w.alloc (.cells #[.func (.func 14) #[] #[]] 49) = W := ⟨_, rfl⟩
    have hcw : Chg [] w W0 := by rw [← hW0]; exact (Chg.refl [] w).alloc _
    have hcl : W0.cell? ⟨w.heap.size, 0, none⟩ = (some (.func (.func 14) #[] #[])) := by
      rw [← hW0]
      exact (Blk.new w #[.func (.func 14) #[] #[]] 49).cell 0 _ rfl
    rw [hW0]
    obtain ⟨bl, hbl⟩ : ∃ n, w.heap.size = n := ⟨_, rfl⟩
    rw [hbl] at hcl ⊢
    have HCW0 := Lib.hid hcw
    have hg0 := hcw.cellSome H.out.c0 (by simp)
    have hg1 := hcw.cellSome H.out.c1 (by simp)
    have hg2 := hcw.cellSome H.out.c2 (by simp)
    have hg3 := hcw.cellSome H.out.c3 (by simp)
    have hg4 := hcw.cellSome H.out.c4 (by simp)
    have hg5 := hcw.cellSome H.out.c5 (by simp)
    have hg6 := hcw.cellSome H.out.c6 (by simp)
    dsimp only at hg1 hg2 hg3 hg4 hg5 hg6
    have HZ := Lib.hid (Zone.of (X := []) (w0 := W0.drew) (off := off) (b := b) hg0 (by simp))
    have HZL := Lib.hid (Zone.of (X := []) (w0 := W0.drew) (off := 0) (b := bl) hcl (by simp))
    have HLTB := Lib.hid (show b < W0.drew.heap.size from lt_of_cell hg0)
    have HLTL := Lib.hid (show bl < W0.drew.heap.size from lt_of_cell hcl)
    have HCL0 := Lib.hid (show W0.drew.cell? ⟨bl, 0, none⟩ = (some (.func (.func 14) #[] #[])) from hcl)
    clear hbl hW0 hcw
    clear h0 h1 h2 h3 h4 h5 h6 hlt
    refine wp_region_C [] rfl (by kernel_rfl) ?_
    have hS : Chg [] W0.drew W0.drew := Chg.refl _ _
    repeat
      (with_reducible show wpX _ _ _ _ _ _ _ _
       first
         | refine wpX_nil ?_
         | refine wpX_skip rfl ?_
         | refine wpX_mv rfl rfl (by kernel_rfl) (fun _ _ => ?_)
         | refine wpX_ldC rfl rfl rfl (by first | exact HZ.out | exact HZL.out) (by assumption) (fun _ _ => ?_)
         | refine wpX_ef' rfl rfl rfl (fun _ _ => ?_)
       go_wp2_with fail)
    refine (HL.out _).mono ?_; rintro _ w1 ⟨rfl, hw⟩
    have hS := hw
    have HCS := Lib.hid hS

    have hk := Chg.cells hS HLTB.out (by simp)
    have hkl := Chg.cells hS HLTL.out (by simp)
    clear hw
    go_wp2_with fail
    refine And.intro HCS.out ?_
    repeat
      (with_reducible show wpX _ _ _ _ _ _ _ _
       first
         | refine wpX_nil ?_
         | refine wpX_skip rfl ?_
         | refine wpX_mv rfl rfl (by kernel_rfl) (fun _ _ => ?_)
         | refine wpX_ldC rfl rfl rfl (by first | exact HZ.out | exact HZL.out) (by assumption) (fun _ _ => ?_)
         | refine wpX_ef' rfl rfl rfl (fun _ _ => ?_)
       go_wp2_with fail)
    refine (HN.out _ (by simp at t6; omega) ((HCW0.out.drew).then HCS.out)).mono ?_; rintro _ w2 ⟨rfl, hw⟩
    have hS := HCS.out.then hw
    have HCS := Lib.hid hS
    clear hk hkl
    have hk := Chg.cells hS HLTB.out (by simp)
    have hkl := Chg.cells hS HLTL.out (by simp)
    clear hw
    go_wp2_with fail
    refine And.intro HCS.out ?_
    repeat
      (with_reducible show wpX _ _ _ _ _ _ _ _
       first
         | refine wpX_nil ?_
         | refine wpX_skip rfl ?_
         | refine wpX_mv rfl rfl (by kernel_rfl) (fun _ _ => ?_)
         | refine wpX_ldC rfl rfl rfl (by first | exact HZ.out | exact HZL.out) (by assumption) (fun _ _ => ?_)
         | refine wpX_ef' rfl rfl rfl (fun _ _ => ?_)
       go_wp2_with fail)
    refine (HY.out _ bl (by simp at t2; omega) ((HCW0.out.drew).then HCS.out) (HCS.out.cellSome HCL0.out (by simp))).mono ?_; rintro _ w3 ⟨rfl, hw⟩
    have hS := HCS.out.then hw
    have HCS := Lib.hid hS
    clear hk hkl
    have hk := Chg.cells hS HLTB.out (by simp)
    have hkl := Chg.cells hS HLTL.out (by simp)
    clear hw
    go_wp2_with fail
    refine And.intro HCS.out ?_
    repeat
      (with_reducible show wpX _ _ _ _ _ _ _ _
       first
         | refine wpX_nil ?_
         | refine wpX_skip rfl ?_
         | refine wpX_mv rfl rfl (by kernel_rfl) (fun _ _ => ?_)
         | refine wpX_ldC rfl rfl rfl (by first | exact HZ.out | exact HZL.out) (by assumption) (fun _ _ => ?_)
         | refine wpX_ef' rfl rfl rfl (fun _ _ => ?_)
       go_wp2_with fail)
    refine (HV.out _ bl (by simp at t4; omega) ((HCW0.out.drew).then HCS.out) (HCS.out.cellSome HCL0.out (by simp))).mono ?_; rintro _ w4 ⟨rfl, hw⟩
    have hS := HCS.out.then hw
    have HCS := Lib.hid hS
    clear hk hkl
    have hk := Chg.cells hS HLTB.out (by simp)
    have hkl := Chg.cells hS HLTL.out (by simp)
    clear hw
    go_wp2_with fail
    refine And.intro HCS.out ?_
    repeat
      (with_reducible show wpX _ _ _ _ _ _ _ _
       first
         | refine wpX_nil ?_
         | refine wpX_skip rfl ?_
         | refine wpX_mv rfl rfl (by kernel_rfl) (fun _ _ => ?_)
         | refine wpX_ldC rfl rfl rfl (by first | exact HZ.out | exact HZL.out) (by assumption) (fun _ _ => ?_)
         | refine wpX_ef' rfl rfl rfl (fun _ _ => ?_)
       go_wp2_with fail)
    refine (HU.out _ bl (by simp at t3; omega) ((HCW0.out.drew).then HCS.out) (HCS.out.cellSome HCL0.out (by simp))).mono ?_; rintro _ w5 ⟨rfl, hw⟩
    have hS := HCS.out.then hw
    have HCS := Lib.hid hS
    clear hk hkl
    have hk := Chg.cells hS HLTB.out (by simp)
    have hkl := Chg.cells hS HLTL.out (by simp)
    clear hw
    go_wp2_with fail
    refine And.intro HCS.out ?_
    repeat
      (with_reducible show wpX _ _ _ _ _ _ _ _
       first
         | refine wpX_nil ?_
         | refine wpX_skip rfl ?_
         | refine wpX_mv rfl rfl (by kernel_rfl) (fun _ _ => ?_)
         | refine wpX_ldC rfl rfl rfl (by first | exact HZ.out | exact HZL.out) (by assumption) (fun _ _ => ?_)
         | refine wpX_ef' rfl rfl rfl (fun _ _ => ?_)
       go_wp2_with fail)
    go_ret
    exact ⟨false, by simp, by simp, HCW0.out.drew.then HCS.out⟩
  case false =>
  have HT1 := Lib.hid t1
  have HT2 := Lib.hid t2
  have HT3 := Lib.hid t3
  have HT4 := Lib.hid t4
  have HT5 := Lib.hid t5
  have HT6 := Lib.hid t6
  have HT7 := Lib.hid t7
  have HT8 := Lib.hid t8
  have HT9 := Lib.hid t9
  have HT10 := Lib.hid t10
  have HT11 := Lib.hid t11
  have hL := HL.out
  rw [t1] at hL
  have HL := Lib.hid hL; clear hL
  have hN := HN.out
  rw [t8] at hN
  have HN := Lib.hid hN; clear hN
  have hY := HY.out
  rw [t9] at hY
  have HY := Lib.hid hY; clear hY
  have hV := HV.out
  rw [t10] at hV
  have HV := Lib.hid hV; clear hV
  have hU := HU.out
  rw [t11] at hU
  have HU := Lib.hid hU; clear hU
  go_enter Tryd.func5, Tryd.ntmps5
  go_wp2_with fail
  obtain ⟨W0, hW0⟩ : ∃ W, w.alloc (.cells #[.func (.func 14) #[] #[]] 49) = W := ⟨_, rfl⟩
  have hcw : Chg [] w W0 := by rw [← hW0]; exact (Chg.refl [] w).alloc _
  have hcl : W0.cell? ⟨w.heap.size, 0, none⟩ = (some (.func (.func 14) #[] #[])) := by
    rw [← hW0]
    exact (Blk.new w #[.func (.func 14) #[] #[]] 49).cell 0 _ rfl
  rw [hW0]
  obtain ⟨bl, hbl⟩ : ∃ n, w.heap.size = n := ⟨_, rfl⟩
  rw [hbl] at hcl ⊢
  have HCW0 := Lib.hid hcw
  have hg0 := hcw.cellSome H.out.c0 (by simp)
  have hg1 := hcw.cellSome H.out.c1 (by simp)
  have hg2 := hcw.cellSome H.out.c2 (by simp)
  have hg3 := hcw.cellSome H.out.c3 (by simp)
  have hg4 := hcw.cellSome H.out.c4 (by simp)
  have hg5 := hcw.cellSome H.out.c5 (by simp)
  have hg6 := hcw.cellSome H.out.c6 (by simp)
  dsimp only at hg1 hg2 hg3 hg4 hg5 hg6
  have HZ := Lib.hid (Zone.of (X := []) (w0 := W0.drew) (off := off) (b := b) hg0 (by simp))
  have HZL := Lib.hid (Zone.of (X := []) (w0 := W0.drew) (off := 0) (b := bl) hcl (by simp))
  have HLTB := Lib.hid (show b < W0.drew.heap.size from lt_of_cell hg0)
  have HLTL := Lib.hid (show bl < W0.drew.heap.size from lt_of_cell hcl)
  have HCL0 := Lib.hid (show W0.drew.cell? ⟨bl, 0, none⟩ = (some (.func (.func 14) #[] #[])) from hcl)
  clear hbl hW0 hcw
  clear h0 h1 h2 h3 h4 h5 h6 hlt
  refine wp_region_C [] rfl (by kernel_rfl) ?_
  have hS : Chg [] W0.drew W0.drew := Chg.refl _ _
  repeat
    (with_reducible show wpX _ _ _ _ _ _ _ _
     first
       | refine wpX_nil ?_
       | refine wpX_skip rfl ?_
       | refine wpX_mv rfl rfl (by kernel_rfl) (fun _ _ => ?_)
       | refine wpX_ldC rfl rfl rfl (by first | exact HZ.out | exact HZL.out) (by assumption) (fun _ _ => ?_)
       | refine wpX_ef' rfl rfl rfl (fun _ _ => ?_)
     go_wp2_with fail)
  refine (HL.out _).mono ?_; rintro _ w1 ⟨rfl, hw⟩
  have hS := hw
  have HCS := Lib.hid hS

  have hk := Chg.cells hS HLTB.out (by simp)
  have hkl := Chg.cells hS HLTL.out (by simp)
  clear hw
  go_wp2_with fail
  refine And.intro HCS.out ?_
  repeat
    (with_reducible show wpX _ _ _ _ _ _ _ _
     first
       | refine wpX_nil ?_
       | refine wpX_skip rfl ?_
       | refine wpX_mv rfl rfl (by kernel_rfl) (fun _ _ => ?_)
       | refine wpX_ldC rfl rfl rfl (by first | exact HZ.out | exact HZL.out) (by assumption) (fun _ _ => ?_)
       | refine wpX_ef' rfl rfl rfl (fun _ _ => ?_)
     go_wp2_with fail)
  refine (HN.out _ (by simp at t6; omega) ((HCW0.out.drew).then HCS.out)).mono ?_; rintro _ w2 ⟨rfl, hw⟩
  have hS := HCS.out.then hw
  have HCS := Lib.hid hS
  clear hk hkl
  have hk := Chg.cells hS HLTB.out (by simp)
  have hkl := Chg.cells hS HLTL.out (by simp)
  clear hw
  go_wp2_with fail
  refine And.intro HCS.out ?_
  repeat
    (with_reducible show wpX _ _ _ _ _ _ _ _
     first
       | refine wpX_nil ?_
       | refine wpX_skip rfl ?_
       | refine wpX_mv rfl rfl (by kernel_rfl) (fun _ _ => ?_)
       | refine wpX_ldC rfl rfl rfl (by first | exact HZ.out | exact HZL.out) (by assumption) (fun _ _ => ?_)
       | refine wpX_ef' rfl rfl rfl (fun _ _ => ?_)
     go_wp2_with fail)
  refine (HY.out _ bl (by simp at t2; omega) ((HCW0.out.drew).then HCS.out) (HCS.out.cellSome HCL0.out (by simp))).mono ?_; rintro _ w3 ⟨rfl, hw⟩
  have hS := HCS.out.then hw
  have HCS := Lib.hid hS
  clear hk hkl
  have hk := Chg.cells hS HLTB.out (by simp)
  have hkl := Chg.cells hS HLTL.out (by simp)
  clear hw
  go_wp2_with fail
  refine And.intro HCS.out ?_
  repeat
    (with_reducible show wpX _ _ _ _ _ _ _ _
     first
       | refine wpX_nil ?_
       | refine wpX_skip rfl ?_
       | refine wpX_mv rfl rfl (by kernel_rfl) (fun _ _ => ?_)
       | refine wpX_ldC rfl rfl rfl (by first | exact HZ.out | exact HZL.out) (by assumption) (fun _ _ => ?_)
       | refine wpX_ef' rfl rfl rfl (fun _ _ => ?_)
     go_wp2_with fail)
  refine (HV.out _ bl (by simp at t4; omega) ((HCW0.out.drew).then HCS.out) (HCS.out.cellSome HCL0.out (by simp))).mono ?_; rintro _ w4 ⟨rfl, hw⟩
  have hS := HCS.out.then hw
  have HCS := Lib.hid hS
  clear hk hkl
  have hk := Chg.cells hS HLTB.out (by simp)
  have hkl := Chg.cells hS HLTL.out (by simp)
  clear hw
  go_wp2_with fail
  refine And.intro HCS.out ?_
  repeat
    (with_reducible show wpX _ _ _ _ _ _ _ _
     first
       | refine wpX_nil ?_
       | refine wpX_skip rfl ?_
       | refine wpX_mv rfl rfl (by kernel_rfl) (fun _ _ => ?_)
       | refine wpX_ldC rfl rfl rfl (by first | exact HZ.out | exact HZL.out) (by assumption) (fun _ _ => ?_)
       | refine wpX_ef' rfl rfl rfl (fun _ _ => ?_)
     go_wp2_with fail)
  refine (HU.out _ bl (by simp at t3; omega) ((HCW0.out.drew).then HCS.out) (HCS.out.cellSome HCL0.out (by simp))).mono ?_; rintro _ w5 ⟨rfl, hw⟩
  have hS := HCS.out.then hw
  have HCS := Lib.hid hS
  clear hk hkl
  have hk := Chg.cells hS HLTB.out (by simp)
  have hkl := Chg.cells hS HLTL.out (by simp)
  clear hw
  go_wp2_with fail
  refine And.intro HCS.out ?_
  repeat
    (with_reducible show wpX _ _ _ _ _ _ _ _
     first
       | refine wpX_nil ?_
       | refine wpX_skip rfl ?_
       | refine wpX_mv rfl rfl (by kernel_rfl) (fun _ _ => ?_)
       | refine wpX_ldC rfl rfl rfl (by first | exact HZ.out | exact HZL.out) (by assumption) (fun _ _ => ?_)
       | refine wpX_ef' rfl rfl rfl (fun _ _ => ?_)
     go_wp2_with fail)
  go_ret
  exact ⟨true, by simp, fun _ => tiny HS.out HT1.out HT2.out HT3.out HT4.out HT5.out HT6.out HT7.out HT8.out HT9.out HT10.out HT11.out, HCW0.out.drew.then HCS.out⟩
end Go.Proofs.YtjgfclhempjinaaDoor
