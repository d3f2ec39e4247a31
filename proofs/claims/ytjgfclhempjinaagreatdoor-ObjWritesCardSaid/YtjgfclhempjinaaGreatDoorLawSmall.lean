/- marquetrylaw.small: true only of what is small. -/
import Derived.Test.YtjgfclhempjinaaGreatDoorObjW5
import Derived.Test.YtjgfclhempjinaaGreatDoorObjOpen
import Derived.Test.YtjgfclhempjinaaGreatDoorAppendAny
import Derived.Test.YtjgfclhempjinaaGreatDoorObjParse
namespace Go.Proofs.YtjgfclhempjinaaGreatDoor
open Go Go.RowKit Go.Mq Go.Mq.Obj
set_option maxRecDepth 100000
theorem infoStrL : (Tryz.prog.info? 9).map (fun i => (i.zero, i.size, i.bytes)) = some (some (.string ⟨#[]⟩), 1, 16) := by kernel_rfl
theorem lsmall_nil (w : World) : Calls Tryz.prog 4 #[.pointer none] w (Ans w (.bool true)) := by
  go_enter Tryz.func4, Tryz.ntmps4
  go_wp2_with fail
  go_ret
  exact ⟨rfl, Chg.refl _ _⟩
def LSm (o : ObjD) (w : World) (e : Ending) (w' : World) : Prop := ∃ q : Bool, e = .returned (.bool q) ∧ (q = true → o.small) ∧ Chg [] w w'
theorem size_cases (a b c d e f g : Nat) : decide ((40 : Int) < (a : Int)) = true ∨ (decide ((40 : Int) < (a : Int)) = false ∧ (decide ((30 : Int) < (b : Int)) = true ∨ (decide ((30 : Int) < (b : Int)) = false ∧ (decide ((10 : Int) < (c : Int)) = true ∨ (decide ((10 : Int) < (c : Int)) = false ∧
    (decide ((15 : Int) < (d : Int)) = true ∨ (decide ((15 : Int) < (d : Int)) = false ∧ (decide ((15 : Int) < (e : Int)) = true ∨ (decide ((15 : Int) < (e : Int)) = false ∧ (decide ((15 : Int) < (f : Int)) = true ∨ (decide ((15 : Int) < (f : Int)) = false ∧
    (decide ((80 : Int) < (g : Int)) = true ∨ decide ((80 : Int) < (g : Int)) = false)))))))))))) := by
  simp only [decide_eq_true_eq, decide_eq_false_iff_not]
  omega

set_option maxHeartbeats 4000000 in
theorem lsmall_any (B b off : Nat) (o : ObjD) (M : ObjM) (w : World) (h : ObjAt w B b off o M) (hs : o.held) :
    Calls Tryz.prog 4 #[.pointer (some ⟨b, off, none⟩)] w (LSm o w) := by
  obtain ⟨sa, ua, va, pa, na, ca, sc, uc, vc, pc, nc, cc, us⟩ := M
  have hh0 := hs.name
  have hh1 := hs.syms.1
  have hh2 := hs.uses.1
  have hh3 := hs.vars.1
  have hh4 := hs.procs
  have hh5 := hs.names.1
  have hh6 := hs.code
  have h0 := h.c0
  have h1 := h.c1
  have h2 := h.c2
  have h3 := h.c3
  have h4 := h.c4
  have h5 := h.c5
  have h6 := h.c6
  dsimp only at h1 h2 h3 h4 h5 h6
  have H := Lib.hid h; have HH := Lib.hid hs
  have HNO := Lib.hid (show LSm o w (.returned (.bool false)) w from ⟨false, rfl, (fun h => by cases h), Chg.refl _ _⟩)
  clear h hs
  rcases size_cases o.name.length o.syms.length o.uses.length o.vars.length o.procs.length o.names.length o.code.length with t1 | ⟨t1, t2 | ⟨t2, t3 | ⟨t3, t4 | ⟨t4, t5 | ⟨t5, t6 | ⟨t6, t7 | t7⟩⟩⟩⟩⟩⟩
  · go_enter Tryz.func4, Tryz.ntmps4
    go_wp2_with fail
    go_ret
    exact HNO.out
  · go_enter Tryz.func4, Tryz.ntmps4
    go_wp2_with fail
    go_ret
    exact HNO.out
  · go_enter Tryz.func4, Tryz.ntmps4
    go_wp2_with fail
    go_ret
    exact HNO.out
  · go_enter Tryz.func4, Tryz.ntmps4
    go_wp2_with fail
    go_ret
    exact HNO.out
  · go_enter Tryz.func4, Tryz.ntmps4
    go_wp2_with fail
    go_ret
    exact HNO.out
  · go_enter Tryz.func4, Tryz.ntmps4
    go_wp2_with fail
    go_ret
    exact HNO.out
  · go_enter Tryz.func4, Tryz.ntmps4
    go_wp2_with fail
    go_ret
    exact HNO.out
  · have z0 : o.name.length ≤ 40 := by have := of_decide_eq_false t1; omega
    have z1 : o.syms.length ≤ 30 := by have := of_decide_eq_false t2; omega
    have z2 : o.uses.length ≤ 10 := by have := of_decide_eq_false t3; omega
    have z3 : o.vars.length ≤ 15 := by have := of_decide_eq_false t4; omega
    have z4 : o.procs.length ≤ 15 := by have := of_decide_eq_false t5; omega
    have z5 : o.names.length ≤ 15 := by have := of_decide_eq_false t6; omega
    have z6 : o.code.length ≤ 80 := by have := of_decide_eq_false t7; omega
    have h5a : ∀ ob, (w.alloc ob).cell? ⟨b, off + 5, none⟩ = some (.slice na o.names.length nc) := fun ob => ((Chg.refl [] w).alloc ob).cellSome h5 (by simp)
    have HOW := Lib.hid (show (w.alloc (.cells #[] 9)).ownsRow 0 9 1 (.slice (some ⟨w.heap.size, 0, none⟩) 0 0) 0 [] from ⟨rfl, .inr ⟨w.heap.size, 0, #[], rfl, Nat.zero_le _, heap_alloc_new w _, Nat.le_refl _, by decide, rfl, rfl⟩⟩)
    have hnat : At (w.alloc (.cells #[] 9)) na (o.names.map str) := H.out.n.kept ((Chg.refl [] w).alloc _) (by simp)
    have HNAT := Lib.hid hnat
    clear hnat hh0 hh1 hh2 hh3 hh4 hh5 hh6
    go_enter Tryz.func4, Tryz.ntmps4
    go_wp2_with (at_builtin; refine wpL_append_any rfl _ _ 42 rfl 9 (.string ⟨#[]⟩) 1 16 infoStrL Tryz.underlying42 rfl (by decide) (.slice (some ⟨w.heap.size, 0, none⟩) 0 0) 0 [] rfl HOW.out na o.names.length nc (o.names.map str) rfl (by simp) HNAT.out (by intro u hu; simp at hu; obtain ⟨_, _, rfl⟩ := hu; rfl) (by omega) (by unfold maxLen; omega) ?_)
    intro v1 w1 ho1 hc1 hm1
    have HV1 := Lib.hid (show w1.ownsRow 0 9 1 v1 o.names.length (o.names.map str) by simpa using ho1)
    have HC1 := Lib.hid (((Chg.refl [] w).alloc (.cells #[] 9)).trans hc1 (fun x hx => by simp [blk] at hx; exact .inr (by omega)))
    have hf1 : From w.heap.size v1 := fun g hg => by
      rcases hm1 g hg with h | h
      · simp [blk] at h; omega
      · simp at h; omega
    have HF1 := Lib.hid hf1; clear hf1
    clear ho1 hc1 hm1 h5a
    go_wp2_with fail
    go_loopw [3, 4] (fun v i wr => ∃ (k : Nat) (xs : List (List UInt8)), k ≤ o.syms.length ∧ i = .int .i64 k ∧ wr.ownsRow 0 9 1 v xs.length (xs.map str) ∧ xs = o.names ++ (o.syms.take k).map (·.name) ∧ xs.length ≤ 15 + k ∧ From w.heap.size v ∧ Chg [] w wr) (fun _ i _ => o.syms.length - (intOf i).toNat)
    case atStart => exact ⟨0, o.names, Nat.zero_le _, rfl, HV1.out, by simp, z5, HF1.out, HC1.out⟩
    case round =>
    obtain ⟨k, xs, hk, rfl, ho, hxs, hxl, hf, hc⟩ := hrel
    have g_1 : wr.cell? ⟨b, off + 1, none⟩ = _ := hc.cellSome H.out.c1 (by simp)
    dsimp only at g_1
    by_cases hlt : k < o.syms.length
    · obtain ⟨x, hx⟩ : ∃ x, o.syms[k]? = some x := ⟨o.syms[k], by simp [hlt]⟩
      have hat : At w sa (o.syms.flatMap SymD.cells) := H.out.s
      obtain ⟨bb, boff, rfl, hcell⟩ := hat (by rw [flat_len _ 3 (fun _ => rfl)]; omega)
      have hcx : wr.cell? ⟨bb, boff + k * 3, none⟩ = some (str x.name) := by
        have h1 := flat_get SymD.cells 3 (fun _ => rfl) o.syms k 0 x hx (by omega)
        exact hc.cellSome (hcell _ _ h1) (by simp)
      have HX := Lib.hid hx; have HO := Lib.hid ho; have HXS := Lib.hid hxs; have HF := Lib.hid hf; have HC := Lib.hid hc
      clear hcell hat hx ho hxs hf hc
      go_wp2_with (at_builtin; refine wpL_append rfl _ _ 42 rfl 9 (.string ⟨#[]⟩) 1 16 infoStrL Tryz.underlying42 rfl (by decide) _ xs.length (xs.map str) rfl (owns_kept HO.out ((Chg.refl [] _).alloc _) (fun _ _ h => by cases h)) ⟨wr.heap.size, 0, none⟩ 1 1 [str x.name] rfl rfl (cells_new _ _ _) (by simp [Value.oneCell']) (by omega) (by unfold maxLen; omega) ?_)
      intro v2 w2 ho2 hc2 hm2
      have HO2 := Lib.hid (show w2.ownsRow 0 9 1 v2 (xs ++ [x.name]).length ((xs ++ [x.name]).map str) by rw [List.length_append, List.map_append]; exact ho2)
      have HC2 := Lib.hid ((HC.out.alloc (.cells #[str x.name] 9)).trans hc2 (fun g hg => .inr (HF.out g hg)))
      have HF2 := Lib.hid (HF.out.moved hm2 (by have := HC.out.size; simp; omega))
      clear ho2 hc2 hm2
      go_wp2_with fail
      go_roundw
      case rel => exact ⟨k + 1, xs ++ [x.name], by omega, by go_num, HO2.out, by rw [HXS.out, List.take_add_one, HX.out]; simp, by rw [List.length_append, List.length_singleton]; omega, HF2.out, HC2.out⟩
      case measure => simp [intOf]; omega
    · have hkn : k = o.syms.length := by omega
      obtain ⟨L2, hL⟩ : ∃ L, L = xs := ⟨_, rfl⟩
      have hlen2 : L2.length ≤ 15 + 30 := by rw [hL]; omega
      have HL2 := Lib.hid (show L2 = o.names ++ o.syms.map (·.name) by rw [hL, hxs, hkn, List.take_length])
      have HV2 := Lib.hid (show wr.ownsRow 0 9 1 _ L2.length (L2.map str) by rw [hL]; exact ho)
      have HC2 := Lib.hid hc; have HF2 := Lib.hid hf
      clear ho hxs hxl hf hc hL hk hkn
      go_wp2_with fail
      clear g_1
      go_loopw [3, 5] (fun v i wr => ∃ (k : Nat) (xs : List (List UInt8)), k ≤ o.vars.length ∧ i = .int .i64 k ∧ wr.ownsRow 0 9 1 v xs.length (xs.map str) ∧ xs = L2 ++ (o.vars.take k).map (·.name) ∧ xs.length ≤ 45 + k ∧ From w.heap.size v ∧ Chg [] w wr) (fun _ i _ => o.vars.length - (intOf i).toNat)
      case atStart => exact ⟨0, L2, Nat.zero_le _, rfl, HV2.out, by simp, hlen2, HF2.out, HC2.out⟩
      case round =>
      obtain ⟨k, xs, hk, rfl, ho, hxs, hxl, hf, hc⟩ := hrel
      have g_3 : wr.cell? ⟨b, off + 3, none⟩ = _ := hc.cellSome H.out.c3 (by simp)
      dsimp only at g_3
      by_cases hlt : k < o.vars.length
      · obtain ⟨x, hx⟩ : ∃ x, o.vars[k]? = some x := ⟨o.vars[k], by simp [hlt]⟩
        have hat : At w va (o.vars.flatMap GlobD.cells) := H.out.v
        obtain ⟨bb, boff, rfl, hcell⟩ := hat (by rw [flat_len _ 4 (fun _ => rfl)]; omega)
        have hcx : wr.cell? ⟨bb, boff + k * 4, none⟩ = some (str x.name) := by
          have h1 := flat_get GlobD.cells 4 (fun _ => rfl) o.vars k 0 x hx (by omega)
          exact hc.cellSome (hcell _ _ h1) (by simp)
        have HX := Lib.hid hx; have HO := Lib.hid ho; have HXS := Lib.hid hxs; have HF := Lib.hid hf; have HC := Lib.hid hc
        clear hcell hat hx ho hxs hf hc
        go_wp2_with (at_builtin; refine wpL_append rfl _ _ 42 rfl 9 (.string ⟨#[]⟩) 1 16 infoStrL Tryz.underlying42 rfl (by decide) _ xs.length (xs.map str) rfl (owns_kept HO.out ((Chg.refl [] _).alloc _) (fun _ _ h => by cases h)) ⟨wr.heap.size, 0, none⟩ 1 1 [str x.name] rfl rfl (cells_new _ _ _) (by simp [Value.oneCell']) (by omega) (by unfold maxLen; omega) ?_)
        intro v2 w2 ho2 hc2 hm2
        have HO2 := Lib.hid (show w2.ownsRow 0 9 1 v2 (xs ++ [x.name]).length ((xs ++ [x.name]).map str) by rw [List.length_append, List.map_append]; exact ho2)
        have HC2 := Lib.hid ((HC.out.alloc (.cells #[str x.name] 9)).trans hc2 (fun g hg => .inr (HF.out g hg)))
        have HF2 := Lib.hid (HF.out.moved hm2 (by have := HC.out.size; simp; omega))
        clear ho2 hc2 hm2
        go_wp2_with fail
        go_roundw
        case rel => exact ⟨k + 1, xs ++ [x.name], by omega, by go_num, HO2.out, by rw [HXS.out, List.take_add_one, HX.out]; simp, by rw [List.length_append, List.length_singleton]; omega, HF2.out, HC2.out⟩
        case measure => simp [intOf]; omega
      · have hkn : k = o.vars.length := by omega
        obtain ⟨L3, hL⟩ : ∃ L, L = xs := ⟨_, rfl⟩
        have hlen3 : L3.length ≤ 45 + 15 := by rw [hL]; omega
        have HL3 := Lib.hid (show L3 = L2 ++ o.vars.map (·.name) by rw [hL, hxs, hkn, List.take_length])
        have HV3 := Lib.hid (show wr.ownsRow 0 9 1 _ L3.length (L3.map str) by rw [hL]; exact ho)
        have HC3 := Lib.hid hc; have HF3 := Lib.hid hf
        clear ho hxs hxl hf hc hL hk hkn
        go_wp2_with fail
        clear g_3
        go_loopw [3, 6] (fun v i wr => ∃ (k : Nat) (xs : List (List UInt8)), k ≤ o.uses.length ∧ i = .int .i64 k ∧ wr.ownsRow 0 9 1 v xs.length (xs.map str) ∧ xs = L3 ++ (o.uses.take k).flatMap (fun u => u.name :: u.names) ∧ xs.length ≤ 60 + k * 111 ∧ (∀ u ∈ o.uses.take k, u.names.length ≤ 110 ∧ u.need.length ≤ 4100) ∧ From w.heap.size v ∧ Chg [] w wr) (fun _ i _ => o.uses.length - (intOf i).toNat)
        case atStart => exact ⟨0, L3, Nat.zero_le _, rfl, HV3.out, by simp, by omega, (fun u hu => by simp at hu), HF3.out, HC3.out⟩
        case round =>
        obtain ⟨k, xs, hk, rfl, ho, hxs, hxl, hall, hf, hc⟩ := hrel
        have g_2 : wr.cell? ⟨b, off + 2, none⟩ = _ := hc.cellSome H.out.c2 (by simp)
        dsimp only at g_2
        by_cases hlt : k < o.uses.length
        · have hus : us.map (·.u) = o.uses := H.out.us
          have hul : us.length = o.uses.length := by rw [← hus, List.length_map]
          obtain ⟨m, hm⟩ : ∃ m, us[k]? = some m := ⟨us[k], by simp [hul, hlt]⟩
          have hx : o.uses[k]? = some m.u := by rw [← hus, List.getElem?_map, hm]; rfl
          have hat : At w ua (us.flatMap UseM.cells) := H.out.u
          obtain ⟨bb, boff, rfl, hcell⟩ := hat (by rw [flat_len _ 3 (fun _ => rfl)]; omega)
          obtain ⟨u, ma, mc⟩ := m
          dsimp only at hx
          have hw0 : w.cell? ⟨bb, boff + k * 3, none⟩ = some (str u.name) := by
            have h1 := flat_get UseM.cells 3 (fun _ => rfl) us k 0 _ hm (by omega)
            exact hcell _ _ h1
          have hw1 : w.cell? ⟨bb, boff + k * 3 + 1, none⟩ = some (str u.need) := by
            have h1 := flat_get UseM.cells 3 (fun _ => rfl) us k 1 _ hm (by omega)
            have h2 := hcell _ _ h1
            rw [← Nat.add_assoc] at h2; exact h2
          have hw2 : w.cell? ⟨bb, boff + k * 3 + 2, none⟩ = some (.slice ma u.names.length mc) := by
            have h1 := flat_get UseM.cells 3 (fun _ => rfl) us k 2 _ hm (by omega)
            have h2 := hcell _ _ h1
            rw [← Nat.add_assoc] at h2; exact h2
          have r0 := hc.cellSome hw0 (by simp)
          have r1 := hc.cellSome hw1 (by simp)
          have r2 := hc.cellSome hw2 (by simp)
          have hq := HH.out.uses.2 u (List.mem_of_getElem? hx)
          have q1 := hq.1
          have q2 := hq.2.1
          have q3 := hq.2.2.1
          obtain ⟨hna, hnb⟩ := H.out.un _ (List.mem_of_getElem? hm)
          dsimp only at hna hnb
          have HX := Lib.hid hx; have HO := Lib.hid ho; have HXS := Lib.hid hxs; have HF := Lib.hid hf; have HC := Lib.hid hc; have HALL := Lib.hid hall; have HNA := Lib.hid hna
          have HWW := Lib.hid (And.intro hw0 hw2)
          have HBW := Lib.hid (And.intro (lt_of_cell H.out.c2) (lt_of_cell hw0))
          clear hcell hat hx ho hxs hf hc hall hna hnb hus hul hm hw0 hw1 hw2 hq
          cases a1 : decide ((110 : Int) < (u.names.length : Int))
          · cases a2 : decide ((4100 : Int) < (u.need.length : Int))
            · have l1 : u.names.length ≤ 110 := by have := of_decide_eq_false a1; omega
              have l2 : u.need.length ≤ 4100 := by have := of_decide_eq_false a2; omega
              have hbv : b ∉ blk u3 := fun hm => by have h1 : b < w.heap.size := HBW.out.1; have h2 := HF.out _ hm; omega
              have hbbv : bb ∉ blk u3 := fun hm => by have h1 : bb < w.heap.size := HBW.out.2; have h2 := HF.out _ hm; omega
              have y1 := Lib.hid (Zone.of (X := blk u3) (w0 := wr.drew) g_2 hbv)
              have y2 := Lib.hid (Zone.of (X := blk u3) (w0 := wr.drew) r0 hbbv)
              have HB1 := Lib.hid hbv; have HB2 := Lib.hid hbbv
              clear hbv hbbv
              go_wp2_with fail
              refine wp_region_C (blk u3) rfl (by kernel_rfl) ?_
              have hS : Chg (blk u3) wr.drew wr.drew := Chg.refl _ _
              repeat
                (with_reducible show wpX _ _ _ _ _ _ _ _
                 first
                   | refine wpX_nil ?_
                   | refine wpX_skip rfl ?_
                   | refine wpX_mv rfl rfl (by kernel_rfl) (fun _ _ => ?_)
                   | refine wpX_ldC rfl rfl rfl (by first | exact y1.out | exact y2.out) (by assumption) (fun _ _ => ?_)
                   | refine wpX_ef' rfl rfl rfl (fun _ _ => ?_)
                 go_wp2_with fail)
              refine And.intro (hS.alloc _) ?_
              repeat
                (with_reducible show wpX _ _ _ _ _ _ _ _
                 first
                   | refine wpX_nil ?_
                   | refine wpX_skip rfl ?_
                   | refine wpX_mv rfl rfl (by kernel_rfl) (fun _ _ => ?_)
                   | refine wpX_ldC rfl rfl rfl (by first | exact y1.out | exact y2.out) (by assumption) (fun _ _ => ?_)
                   | refine wpX_ef' rfl rfl rfl (fun _ _ => ?_)
                 go_wp2_with fail)
              refine wpX_append _ _ 42 rfl rfl rfl 9 (.string ⟨#[]⟩) 1 16 infoStrL Tryz.underlying42 rfl (by decide) u3 xs.length (xs.map str) rfl (owns_kept (w := wr.drew) HO.out ((Chg.refl [] _).alloc _) (fun _ _ h => by cases h)) ⟨wr.heap.size, 0, none⟩ 1 1 [str u.name] rfl rfl (cells_new _ _ _) (by simp [Value.oneCell']) (by omega) (by unfold maxLen; omega) ?_
              intro v2 w2 ho2 hc2 hm2
              have hS2 : Chg (blk u3) wr.drew w2 := (hS.alloc _).then hc2
              have hSw : Chg (blk u3) wr w2 := Chg.trans (S := blk u3) (⟨rfl, rfl, rfl, Nat.le_refl _, fun _ _ _ => rfl⟩ : Chg _ wr wr.drew) hS2 (fun x hx => .inl hx)
              have g_2b := hSw.cellSome g_2 HB1.out
              have r2b := hSw.cellSome r2 HB2.out
              have HO2 := Lib.hid (show w2.ownsRow 0 9 1 v2 (xs.length + 1) ((xs ++ [u.name]).map str) by rw [List.map_append]; exact ho2)
              have hn2 : At w2 ma (u.names.map str) := fun h0 => by
                obtain ⟨b1, o1, e1, c1⟩ := HNA.out h0
                refine ⟨b1, o1, e1, fun i x hx => ?_⟩
                have hc0 := c1 i x hx
                have hlt := lt_of_cell hc0
                have hb : b1 ∉ blk u3 := fun hm => by
                  have := HF.out _ hm
                  simp at hlt
                  omega
                exact hSw.cellSome (HC.out.cellSome hc0 (by simp)) hb
              have HN2 := Lib.hid hn2
              have HS2 := Lib.hid hS2
              have HM2 := Lib.hid hm2
              clear ho2 hc2 hm2 hSw hn2 hS
              refine And.intro HS2.out ?_
              repeat
                (with_reducible show wpX _ _ _ _ _ _ _ _
                 first
                   | refine wpX_nil ?_
                   | refine wpX_skip rfl ?_
                   | refine wpX_mv rfl rfl (by kernel_rfl) (fun _ _ => ?_)
                   | refine wpX_ldC rfl rfl rfl (by first | exact y1.out | exact y2.out) (by assumption) (fun _ _ => ?_)
                   | refine wpX_ef' rfl rfl rfl (fun _ _ => ?_)
                 go_wp2_with fail)
              refine wpX_append_any _ _ 42 rfl rfl rfl 9 (.string ⟨#[]⟩) 1 16 infoStrL Tryz.underlying42 rfl (by decide) v2 (xs.length + 1) ((xs ++ [u.name]).map str) rfl HO2.out ma u.names.length mc (u.names.map str) rfl (by simp) HN2.out (by intro x hx; simp at hx; obtain ⟨_, _, rfl⟩ := hx; rfl) (by omega) (by unfold maxLen; omega) ?_
              intro v3 w3 ho3 hc3 hm3
              have hS3 : Chg (blk u3) wr.drew w3 := HS2.out.trans hc3 (fun x hx => by
                rcases HM2.out x hx with h | h
                · exact .inl h
                · exact .inr (by simp at h ⊢; omega))
              have HS3 := Lib.hid hS3
              have HO3 := Lib.hid (show w3.ownsRow 0 9 1 v3 (xs ++ (u.name :: u.names)).length ((xs ++ (u.name :: u.names)).map str) by
                have e : (xs ++ (u.name :: u.names)).length = xs.length + 1 + u.names.length := by simp; omega
                rw [e, show xs ++ (u.name :: u.names) = (xs ++ [u.name]) ++ u.names from by simp, List.map_append (l₁ := xs ++ [u.name])]
                exact ho3)
              have HF3 := Lib.hid (show From w.heap.size v3 from fun g hg => by
                rcases hm3 g hg with h | h
                · rcases HM2.out g h with h2 | h2
                  · exact HF.out g h2
                  · have := HC.out.size; simp at h2; omega
                · have := HC.out.size; have h3 := HS2.out.size; simp at h3; omega)
              clear ho3 hc3 hm3 hS3
              refine And.intro HS3.out ?_
              repeat
                (with_reducible show wpX _ _ _ _ _ _ _ _
                 first
                   | refine wpX_nil ?_
                   | refine wpX_skip rfl ?_
                   | refine wpX_mv rfl rfl (by kernel_rfl) (fun _ _ => ?_)
                   | refine wpX_ldC rfl rfl rfl (by first | exact y1.out | exact y2.out) (by assumption) (fun _ _ => ?_)
                   | refine wpX_ef' rfl rfl rfl (fun _ _ => ?_)
                 go_wp2_with fail)
              go_roundw
              case rel =>
                refine ⟨k + 1, xs ++ (u.name :: u.names), by omega, by go_num, HO3.out, ?_, ?_, ?_, HF3.out, (HC.out.drew).trans HS3.out (fun x hx => .inr (HF.out x hx))⟩
                · rw [HXS.out, List.take_add_one, HX.out]; simp
                · simp; omega
                · intro y hy
                  rw [List.take_add_one, HX.out] at hy
                  rcases List.mem_append.1 hy with h | h
                  · exact HALL.out y h
                  · simp at h; subst h; exact ⟨l1, l2⟩
              case measure => simp [intOf]; omega
            · go_wp2_with fail
              go_ret
              exact ⟨false, rfl, (fun h => by cases h), HC.out⟩
          · go_wp2_with fail
            go_ret
            exact ⟨false, rfl, (fun h => by cases h), HC.out⟩
        · have hkn : k = o.uses.length := by omega
          have hxs2 : xs = L3 ++ o.uses.flatMap (fun u => u.name :: u.names) := by rw [hxs, hkn, List.take_length]
          have HUS := Lib.hid (show ∀ u ∈ o.uses, u.names.length ≤ 110 ∧ u.need.length ≤ 4100 by rw [hkn, List.take_length] at hall; exact hall)
          obtain ⟨N, hN⟩ : ∃ N, N = xs.length := ⟨_, rfl⟩
          have hN2 : N ≤ 1170 := by omega
          obtain ⟨a4, c4, hv4, hat4, _⟩ := own_at (by omega) ho
          rw [← hN] at hv4
          subst hv4
          have HA4 := Lib.hid hat4; have HC4 := Lib.hid hc; have HX4 := Lib.hid hxs2; have HNN := Lib.hid hN
          clear ho hxs hxs2 hxl hall hf hc hat4 hN hk hkn
          go_wp2_with fail
          clear g_2 hlt
          obtain ⟨W4, hW4⟩ : ∃ W, W = wr := ⟨_, rfl⟩
          subst hW4
          go_loopw [7] (fun i wr => ∃ k : Nat, k ≤ N ∧ i = .int .i64 k ∧ (∀ x ∈ xs.take k, x.length ≤ 40) ∧ W4 = wr) (fun i _ => N - (intOf i).toNat)
          case atStart => exact ⟨0, Nat.zero_le _, rfl, (fun x hx => by simp at hx), rfl⟩
          case round =>
          obtain ⟨k, hk, rfl, hall, hw⟩ := hrel
          subst hw
          by_cases hlt : k < N
          · obtain ⟨x, hx⟩ : ∃ x, xs[k]? = some x := ⟨xs[k]'(by rw [← HNN.out]; exact hlt), by simp [← HNN.out, hlt]⟩
            obtain ⟨bb, boff, rfl, hcell⟩ := HA4.out (by rw [List.length_map, ← HNN.out]; omega)
            have hcx := hcell k (str x) (by rw [List.getElem?_map, hx]; rfl)
            have hxl : x.length ≤ 9223372036854775807 := by
              have hm := List.mem_of_getElem? hx
              rw [HX4.out, HL3.out, HL2.out] at hm
              simp only [List.mem_append, List.mem_map, List.mem_flatMap, List.mem_cons] at hm
              rcases hm with ((h | ⟨s, h1, h2⟩) | ⟨s, h1, h2⟩) | ⟨u, h1, h2⟩
              · exact HH.out.names.2 x h
              · rw [← h2]; exact HH.out.syms.2 s h1
              · rw [← h2]; exact HH.out.vars.2 s h1
              · rcases h2 with h2 | h2
                · rw [h2]; exact (HH.out.uses.2 u h1).1
                · exact (HH.out.uses.2 u h1).2.2.2 x h2
            have HX := Lib.hid hx; have HALL := Lib.hid hall
            clear hcell hx hall
            cases a1 : decide ((40 : Int) < (x.length : Int))
            · go_wp2_with fail
              go_roundw
              case rel =>
                refine ⟨k + 1, by omega, by go_num, fun y hy => ?_, by first | rfl | trivial⟩
                rw [List.take_add_one, HX.out] at hy
                rcases List.mem_append.1 hy with h | h
                · exact HALL.out y h
                · simp at h; subst h
                  have := of_decide_eq_false a1; omega
              case measure => simp [intOf]; omega
            · go_wp2_with fail
              go_ret
              exact ⟨false, rfl, (fun h => by cases h), HC4.out⟩
          · have hkn : k = N := by omega
            have HSML := Lib.hid (show o.small from by
              rw [hkn, HNN.out, List.take_length] at hall
              have hmem : ∀ y, (y ∈ o.names ∨ (∃ s ∈ o.syms, s.name = y) ∨ (∃ g ∈ o.vars, g.name = y) ∨ ∃ u ∈ o.uses, u.name = y ∨ y ∈ u.names) → y.length ≤ 1099511627776 := fun y hy => by
                have : y ∈ xs := by
                  rw [HX4.out, HL3.out, HL2.out]
                  simp only [List.mem_append, List.mem_map, List.mem_flatMap, List.mem_cons]
                  rcases hy with h | ⟨s, h1, h2⟩ | ⟨s, h1, h2⟩ | ⟨u, h1, h2⟩
                  · exact .inl (.inl (.inl h))
                  · exact .inl (.inl (.inr ⟨s, h1, h2⟩))
                  · exact .inl (.inr ⟨s, h1, h2⟩)
                  · exact .inr ⟨u, h1, h2.elim (fun e => .inl e.symm) .inr⟩
                have := hall y this
                omega
              refine ⟨HH.out.fit, by omega, ⟨by omega, fun s hs => hmem _ (.inr (.inl ⟨s, hs, rfl⟩))⟩, ⟨by omega, fun u hu => ⟨hmem _ (.inr (.inr (.inr ⟨u, hu, .inl rfl⟩))), by have := (HUS.out u hu).2; omega, by have := (HUS.out u hu).1; omega, fun n hn => hmem _ (.inr (.inr (.inr ⟨u, hu, .inr hn⟩)))⟩⟩, ⟨by omega, fun g hg => hmem _ (.inr (.inr (.inl ⟨g, hg, rfl⟩)))⟩, by omega, ⟨by omega, fun n hn => hmem _ (.inl hn)⟩, by omega⟩)
            clear hall
            go_wp2_with fail
            go_ret
            exact ⟨true, rfl, (fun _ => HSML.out), HC4.out⟩
end Go.Proofs.YtjgfclhempjinaaGreatDoor
