/- What a name stands for. -/
import Derived.Test.YtoeblajmelbbmaaGreatDoorCheckW2
import Derived.Test.YtoeblajmelbbmaaGreatDoorMA
import Derived.BigQuiet
namespace Go.Mq.Check
open Go Go.RowKit Go.Mq Go.Mq.Tree Go.Mq.Sym
theorem getM_seen {w : World} {F : Nat → Prop} {seen : List UInt8 → Option (List Sy)} {b : Nat} {es : List (List UInt8 × Value)} {n : List UInt8} (h : match seen n with
    | none => getM es n = none
    | some l => l.length ≤ 1000 ∧ ∃ u, getM es n = some u ∧ SymsAt w F l u) : ((seen n).getD []).length ≤ 1000 ∧ SymsAt w F ((seen n).getD []) ((getM es n).getD nils) := by
  cases hs : seen n with
  | none =>
    rw [hs] at h
    simp only at h
    rw [h]
    exact ⟨by simp, none, 0, rfl, Nat.le_refl _, Row.nil _ _ _, fun _ => rfl⟩
  | some l =>
    rw [hs] at h
    obtain ⟨h1, u, h2, h3⟩ := h
    rw [h2]
    exact ⟨h1, h3⟩
end Go.Mq.Check
namespace Go.Proofs.YtoeblajmelbbmaaGreatDoor
open Go Go.RowKit Go.Mq Go.Mq.Tree Go.Mq.Sym Go.Mq.Check
set_option maxRecDepth 100000
set_option maxHeartbeats 2000000
/-- A look into what others see. -/
theorem look_seen {w : World} {F : Nat → Prop} {seen : List UInt8 → Option (List Sy)} {v : Value} (h : SeenAt w F seen v) (n : List UInt8) : ∃ u, (∀ w', Chg [] w w' → (Instr.lookup 34 v (str n) false).run Tryz.prog w' = .ok u w') ∧
    (∀ w', Chg [] w w' → (Instr.lookup 34 v (str n) true).run Tryz.prog w' = .ok (.tuple #[u, .bool (seen n).isSome]) w') ∧ ((seen n).getD []).length ≤ 1000 ∧ SymsAt w F ((seen n).getD []) u := by
  rcases h with ⟨rfl, h⟩ | ⟨b, es, rfl, _, hm, hs⟩
  · refine ⟨nils, fun w' _ => ?_, fun w' _ => ?_, by rw [h n]; simp, ?_⟩
    · exact run_getNok Tryz.underlying34 Tryz.underlying9 (zero_syms w') n false
    · rw [h n]; exact run_getNok Tryz.underlying34 Tryz.underlying9 (zero_syms w') n true
    · rw [h n]; exact ⟨none, 0, rfl, Nat.le_refl _, Row.nil _ _ _, fun _ => rfl⟩
  · have hn := hs n
    have hi : (getM es n).isSome = (seen n).isSome := by
      cases hsn : seen n with
      | none => rw [hsn] at hn; simp only at hn; rw [hn] <;> rfl
      | some l => rw [hsn] at hn; obtain ⟨_, u, hu, _⟩ := hn; rw [hu] <;> rfl
    obtain ⟨h1, h2⟩ := getM_seen (b := b) hn
    refine ⟨_, fun w' hc => run_getM Tryz.underlying34 Tryz.underlying9 (zero_syms w') (hm.kept hc (by simp)) n, fun w' hc => ?_, h1, h2⟩
    rw [← hi]
    exact run_getMok Tryz.underlying34 Tryz.underlying9 (zero_syms w') (hm.kept hc (by simp)) n
theorem cfind_any (c : Env) (bc be p : Nat) (m n : List UInt8) (c0 c2 c5 c6 c7 c8 : Value) (F : Nat → Prop) (w : World) (hE : EnvAt w F c bc) (hx : Blk w be #[c0, .int .i64 p, c2, str m, str n, c5, c6, c7, c8] 125) :
    Calls Tryz.prog 70 #[ptr bc, ptr be] w (FoundAt w (c.find p m n)) := by
  have hmf : ∀ (fn : Fn) (first cap : Array Value) (w : World), (Instr.makeFunc fn first cap).run Tryz.prog w = .ok (.func fn first cap) w := fun _ _ _ _ => rfl
  obtain ⟨w0, hw0⟩ : ∃ w0, (w.alloc (.cells #[ptr be] 100)).alloc (.cells #[str [], .int .i64 0, .int .i64 0] 48) = w0 := ⟨_, rfl⟩
  have hs1 : (w.alloc (.cells #[ptr be] 100)).heap.size = w.heap.size + 1 := by simp
  have hb : Blk w0 w.heap.size #[ptr be] 100 := by rw [← hw0]; exact (Blk.new _ _ _).kept ((Chg.refl [] _).alloc _) (by simp)
  have hr : Blk w0 (w.heap.size + 1) #[str [], .int .i64 0, .int .i64 0] 48 := by rw [← hw0, ← hs1]; exact Blk.new _ _ _
  have hc0 : Chg [] w w0 := by rw [← hw0]; exact ((Chg.refl _ _).alloc _).alloc _
  have hx0 := hx.kept hc0 (by simp)
  obtain ⟨nm, vi, vv, vp, vb, vm, vl, hk, hni, hgv, hpv, hsv, hnl⟩ := (hE.kept hc0 (by simp)).at_
  have b0 := hb.cell 0 _ rfl
  have x1 := hx0.cell 1 _ rfl; have x3 := hx0.cell 3 _ rfl; have x4 := hx0.cell 4 _ rfl
  have k1 := hk.cell 1 _ rfl; have k2 := hk.cell 2 _ rfl; have k3 := hk.cell 3 _ rfl; have k5 := hk.cell 5 _ rfl; have k6 := hk.cell 6 _ rfl
  have HI := hE.fewi; have HLO := hE.fewl; have HVS := hE.fewv; have HPS := hE.fewp
  have HC := Lib.hid hc0; have HR := Lib.hid hr; have HX := Lib.hid hx0; have HB := Lib.hid hb; have HK := Lib.hid hk
  have HNI := Lib.hid hni; have HGV := Lib.hid hgv; have HPV := Lib.hid hpv; have HSV := Lib.hid hsv; have HNL := Lib.hid hnl
  have hn1 : be ≠ w.heap.size := by have := hx.lt; omega
  clear hc0 hr hx0 hb hk hni hgv hpv hsv hnl hE hx hs1
  have HC0 := Lib.hid (Chg.refl [] w0)
  have HCW := Lib.hid HC.out
  have HCT := Lib.hid (show ∀ w', Chg [] w0 w' → Calls Tryz.prog 22 #[vl, str n] w' (fun e w'' => e = .returned (.bool (decide (n ∈ c.locals))) ∧ w'' = w') from fun w' hc => contains_in c.locals HLO n F vl w' (HNL.out.kept hc (by simp)))
  have HCM := Lib.hid (show ∀ w', Chg [] w0 w' → Calls Tryz.prog 22 #[vi, str m] w' (fun e w'' => e = .returned (.bool (decide (m ∈ c.imports))) ∧ w'' = w') from fun w' hc => contains_in c.imports HI m F vi w' (HNI.out.kept hc (by simp)))
  have HIG := Lib.hid (show ∀ w', Chg [] w0 w' → Calls Tryz.prog 78 #[vv, .func (.func 79) #[] #[ptr w.heap.size]] w' (fun e w'' => At1 c.vars (fun g => g.name == n) e ∧ Chg [] w' w'') from fun w' hc => indexg_any c.vars HVS n be w.heap.size c0 (.int .i64 p) c2 (str m) c5 c6 c7 c8 F vv w' (HGV.out.kept hc (by simp)) (hc.cellSome (HB.out.cell 0 _ rfl) (by simp)) (HX.out.kept hc (by simp)))
  have HIP := Lib.hid (show ∀ w', Chg [] w0 w' → Calls Tryz.prog 80 #[vp, .func (.func 81) #[] #[ptr w.heap.size]] w' (fun e w'' => At1 c.procs (fun g => g.name == n) e ∧ Chg [] w' w'') from fun w' hc => indexp_any c.procs HPS n be w.heap.size c0 (.int .i64 p) c2 (str m) c5 c6 c7 c8 F vp w' (HPV.out.kept hc (by simp)) (hc.cellSome (HB.out.cell 0 _ rfl) (by simp)) (HX.out.kept hc (by simp)))
  cases m with
  | nil =>
    clear HCM
    cases hl : decide (n ∈ c.locals) with
    | true =>
      rw [hl] at HCT
      have HFD := Lib.hid (show c.find p [] n = .is ⟨n, 0, -1⟩ by rw [Env.find, if_neg (by simp), if_pos (by simpa using hl)])
      clear hl
      go_enter Tryz.func70, Tryz.ntmps70
      go_wp2_with fail
      obtain ⟨wD, hwD⟩ : ∃ x, x = w0.drew := ⟨_, rfl⟩
      clear b0 x1 x3 x4 k1 k2 k3 k5 k6
      have hWD : Chg [] w0 wD := by rw [hwD]; exact (Chg.refl [] w0).drew
      have HCW := Lib.hid (HCW.out.then hWD); have HC0 := Lib.hid (HC0.out.then hWD)
      have HB := Lib.hid (HB.out.kept hWD (by simp)); have HX := Lib.hid (HX.out.kept hWD (by simp)); have HK := Lib.hid (HK.out.kept hWD (by simp)); have HR := Lib.hid (HR.out.kept hWD (by simp))
      clear hWD
      have b0 : wD.cell? ⟨w.heap.size, 0, none⟩ = _ := HB.out.cell 0 _ rfl
      have x1 : wD.cell? ⟨be, 1, none⟩ = _ := HX.out.cell 1 _ rfl
      have x3 : wD.cell? ⟨be, 3, none⟩ = _ := HX.out.cell 3 _ rfl
      have x4 : wD.cell? ⟨be, 4, none⟩ = _ := HX.out.cell 4 _ rfl
      have k1 : wD.cell? ⟨bc, 1, none⟩ = _ := HK.out.cell 1 _ rfl
      have k2 : wD.cell? ⟨bc, 2, none⟩ = _ := HK.out.cell 2 _ rfl
      have k3 : wD.cell? ⟨bc, 3, none⟩ = _ := HK.out.cell 3 _ rfl
      have k5 : wD.cell? ⟨bc, 5, none⟩ = _ := HK.out.cell 5 _ rfl
      have k6 : wD.cell? ⟨bc, 6, none⟩ = _ := HK.out.cell 6 _ rfl
      have Z1 := Lib.hid (Zone.of (X := []) (w0 := wD) b0 (by simp))
      have Z2 := Lib.hid (Zone.of (X := []) (w0 := wD) x1 (by simp))
      have Z3 := Lib.hid (Zone.of (X := []) (w0 := wD) k1 (by simp))
      refine wp_region_C [] rfl (by kernel_rfl) ?_
      rw [← hwD]
      clear hwD
      have hS : Chg [] wD wD := Chg.refl _ _
      repeat
        (with_reducible show wpX _ _ _ _ _ _ _ _
         first
           | refine wpX_nil ?_
           | refine wpX_skip rfl ?_
           | refine wpX_mv rfl rfl (by kernel_rfl) (fun _ _ => ?_)
           | refine wpX_ldC rfl rfl rfl (by first | exact Z1.out | exact Z2.out | exact Z3.out) (by assumption) (fun _ _ => ?_)
           | refine wpX_ef' rfl rfl rfl (fun _ _ => ?_)
         go_wp2_with fail)
      obtain ⟨wF, hwF, hcF, hbF⟩ := set3 (str n) (.int .i64 0) (.int .i64 (-1)) HR.out
      have r0 : wD.frozen? ⟨w.heap.size + 1, 0, none⟩ = _ := HR.out.frozen 0
      have r1 : wD.frozen? ⟨w.heap.size + 1, 1, none⟩ = _ := HR.out.frozen 1
      have r2 : wD.frozen? ⟨w.heap.size + 1, 2, none⟩ = _ := HR.out.frozen 2
      have e0 : wD.cell? ⟨w.heap.size + 1, 0, none⟩ = _ := HR.out.cell 0 _ rfl
      have e1 : wD.cell? ⟨w.heap.size + 1, 1, none⟩ = _ := HR.out.cell 1 _ rfl
      have e2 : wD.cell? ⟨w.heap.size + 1, 2, none⟩ = _ := HR.out.cell 2 _ rfl
      have f0 := hbF.cell 0 _ rfl; have f1 := hbF.cell 1 _ rfl; have f2 := hbF.cell 2 _ rfl
      have HCF := Lib.hid (show Chg [] w wF from HCW.out.trans hcF (fun x hx => .inr (by simp at hx; omega)))
      clear hcF hbF
      refine (HCT.out _ HC0.out).mono ?_; rintro _ _ ⟨rfl, hw⟩; have hw := hw.symm; subst hw
      go_wp2_with fail
      refine And.intro hS ?_
      repeat
        (with_reducible show wpX _ _ _ _ _ _ _ _
         first
           | refine wpX_nil ?_
           | refine wpX_skip rfl ?_
           | refine wpX_mv rfl rfl (by kernel_rfl) (fun _ _ => ?_)
           | refine wpX_ldC rfl rfl rfl (by first | exact Z1.out | exact Z2.out | exact Z3.out) (by assumption) (fun _ _ => ?_)
           | refine wpX_ef' rfl rfl rfl (fun _ _ => ?_)
         go_wp2_with fail)
      clear hS Z1 Z2 Z3
      go_wp2_with fail
      refine bodyPost_ret (v := .agg #[str n, .int .i64 0, .int .i64 (-1)]) (by simp [results, Tryz.results70, go_sem, f0, f1, f2]) rfl ?_
      rw [HFD.out]
      exact ⟨HCF.out, rfl⟩
    | false =>
      rw [hl] at HCT
      have hnl : n ∉ c.locals := by simpa using hl
      cases hg : c.vars.find? (fun g => g.name == n) with
      | some g =>
        have HFD := Lib.hid (show c.find p [] n = .is ⟨n, g.len, -1⟩ by rw [Env.find, if_neg (by simp), if_neg hnl, hg])
        clear hl hnl
        go_enter Tryz.func70, Tryz.ntmps70
        go_wp2_with fail
        obtain ⟨wD, hwD⟩ : ∃ x, x = w0.drew := ⟨_, rfl⟩
        clear b0 x1 x3 x4 k1 k2 k3 k5 k6
        have hWD : Chg [] w0 wD := by rw [hwD]; exact (Chg.refl [] w0).drew
        have HCW := Lib.hid (HCW.out.then hWD); have HC0 := Lib.hid (HC0.out.then hWD)
        have HB := Lib.hid (HB.out.kept hWD (by simp)); have HX := Lib.hid (HX.out.kept hWD (by simp)); have HK := Lib.hid (HK.out.kept hWD (by simp)); have HR := Lib.hid (HR.out.kept hWD (by simp))
        clear hWD
        have b0 : wD.cell? ⟨w.heap.size, 0, none⟩ = _ := HB.out.cell 0 _ rfl
        have x1 : wD.cell? ⟨be, 1, none⟩ = _ := HX.out.cell 1 _ rfl
        have x3 : wD.cell? ⟨be, 3, none⟩ = _ := HX.out.cell 3 _ rfl
        have x4 : wD.cell? ⟨be, 4, none⟩ = _ := HX.out.cell 4 _ rfl
        have k1 : wD.cell? ⟨bc, 1, none⟩ = _ := HK.out.cell 1 _ rfl
        have k2 : wD.cell? ⟨bc, 2, none⟩ = _ := HK.out.cell 2 _ rfl
        have k3 : wD.cell? ⟨bc, 3, none⟩ = _ := HK.out.cell 3 _ rfl
        have k5 : wD.cell? ⟨bc, 5, none⟩ = _ := HK.out.cell 5 _ rfl
        have k6 : wD.cell? ⟨bc, 6, none⟩ = _ := HK.out.cell 6 _ rfl
        have Z1 := Lib.hid (Zone.of (X := []) (w0 := wD) b0 (by simp))
        have Z2 := Lib.hid (Zone.of (X := []) (w0 := wD) x1 (by simp))
        have Z3 := Lib.hid (Zone.of (X := []) (w0 := wD) k1 (by simp))
        refine wp_region_C [] rfl (by kernel_rfl) ?_
        rw [← hwD]
        clear hwD
        have hS : Chg [] wD wD := Chg.refl _ _
        repeat
          (with_reducible show wpX _ _ _ _ _ _ _ _
           first
             | refine wpX_nil ?_
             | refine wpX_skip rfl ?_
             | refine wpX_mv rfl rfl (by kernel_rfl) (fun _ _ => ?_)
             | refine wpX_ldC rfl rfl rfl (by first | exact Z1.out | exact Z2.out | exact Z3.out) (by assumption) (fun _ _ => ?_)
             | refine wpX_ef' rfl rfl rfl (fun _ _ => ?_)
           go_wp2_with fail)
        refine (HCT.out _ HC0.out).mono ?_; rintro _ _ ⟨rfl, hw⟩; have hw := hw.symm; subst hw
        go_wp2_with fail
        refine And.intro hS ?_
        repeat
          (with_reducible show wpX _ _ _ _ _ _ _ _
           first
             | refine wpX_nil ?_
             | refine wpX_skip rfl ?_
             | refine wpX_mv rfl rfl (by kernel_rfl) (fun _ _ => ?_)
             | refine wpX_ldC rfl rfl rfl (by first | exact Z1.out | exact Z2.out | exact Z3.out) (by assumption) (fun _ _ => ?_)
             | refine wpX_ef' rfl rfl rfl (fun _ _ => ?_)
           go_wp2_with fail)
        clear hS Z1 Z2 Z3
        go_wp2_with fail
        refine (HIG.out _ HC0.out).mono ?_; rintro _ w2 ⟨hat, hc2⟩
        rw [At1, hg] at hat
        clear b0 x1 x3 x4 k1 k2 k3 k5 k6
        have hWD : Chg [] wD w2 := hc2
        have HCW := Lib.hid (HCW.out.then hWD); have HC0 := Lib.hid (HC0.out.then hWD)
        have HB := Lib.hid (HB.out.kept hWD (by simp)); have HX := Lib.hid (HX.out.kept hWD (by simp)); have HK := Lib.hid (HK.out.kept hWD (by simp)); have HR := Lib.hid (HR.out.kept hWD (by simp))
        clear hWD
        have b0 : w2.cell? ⟨w.heap.size, 0, none⟩ = _ := HB.out.cell 0 _ rfl
        have x1 : w2.cell? ⟨be, 1, none⟩ = _ := HX.out.cell 1 _ rfl
        have x3 : w2.cell? ⟨be, 3, none⟩ = _ := HX.out.cell 3 _ rfl
        have x4 : w2.cell? ⟨be, 4, none⟩ = _ := HX.out.cell 4 _ rfl
        have k1 : w2.cell? ⟨bc, 1, none⟩ = _ := HK.out.cell 1 _ rfl
        have k2 : w2.cell? ⟨bc, 2, none⟩ = _ := HK.out.cell 2 _ rfl
        have k3 : w2.cell? ⟨bc, 3, none⟩ = _ := HK.out.cell 3 _ rfl
        have k5 : w2.cell? ⟨bc, 5, none⟩ = _ := HK.out.cell 5 _ rfl
        have k6 : w2.cell? ⟨bc, 6, none⟩ = _ := HK.out.cell 6 _ rfl
        clear hc2
        obtain ⟨k, hk, rfl⟩ := hat
        have hlt : k < c.vars.length := (List.getElem?_eq_some_iff.1 hk).1
        obtain ⟨av, cv, hvv, _, hvr⟩ := HGV.out.kept HC0.out (by simp)
        obtain ⟨bb, off, rfl, _, _, d2, _⟩ := glob_cells hvr hk
        subst hvv
        have HD2 := Lib.hid d2
        clear hvr hk d2
        go_wp2_with fail
        have HD2 := Lib.hid (show w2.drew.cell? _ = _ from HD2.out)
        obtain ⟨wE, hwD⟩ : ∃ x, x = w2.drew := ⟨_, rfl⟩
        clear b0 x1 x3 x4 k1 k2 k3 k5 k6
        have hWD : Chg [] w2 wE := by rw [hwD]; exact (Chg.refl [] w2).drew
        have HCW := Lib.hid (HCW.out.then hWD); have HC0 := Lib.hid (HC0.out.then hWD)
        have HB := Lib.hid (HB.out.kept hWD (by simp)); have HX := Lib.hid (HX.out.kept hWD (by simp)); have HK := Lib.hid (HK.out.kept hWD (by simp)); have HR := Lib.hid (HR.out.kept hWD (by simp))
        clear hWD
        have b0 : wE.cell? ⟨w.heap.size, 0, none⟩ = _ := HB.out.cell 0 _ rfl
        have x1 : wE.cell? ⟨be, 1, none⟩ = _ := HX.out.cell 1 _ rfl
        have x3 : wE.cell? ⟨be, 3, none⟩ = _ := HX.out.cell 3 _ rfl
        have x4 : wE.cell? ⟨be, 4, none⟩ = _ := HX.out.cell 4 _ rfl
        have k1 : wE.cell? ⟨bc, 1, none⟩ = _ := HK.out.cell 1 _ rfl
        have k2 : wE.cell? ⟨bc, 2, none⟩ = _ := HK.out.cell 2 _ rfl
        have k3 : wE.cell? ⟨bc, 3, none⟩ = _ := HK.out.cell 3 _ rfl
        have k5 : wE.cell? ⟨bc, 5, none⟩ = _ := HK.out.cell 5 _ rfl
        have k6 : wE.cell? ⟨bc, 6, none⟩ = _ := HK.out.cell 6 _ rfl
        have Z1 := Lib.hid (Zone.of (X := []) (w0 := wE) b0 (by simp))
        have Z2 := Lib.hid (Zone.of (X := []) (w0 := wE) x1 (by simp))
        have Z3 := Lib.hid (Zone.of (X := []) (w0 := wE) k1 (by simp))
        have d2 : wE.cell? ⟨bb, off + k * 4 + 2, none⟩ = some (.int .i64 g.len) := by rw [hwD]; exact HD2.out
        have Z4 := Lib.hid (Zone.of (X := []) (w0 := wE) d2 (by simp))
        obtain ⟨wF, hwF, hcF, hbF⟩ := set3 (str n) (.int .i64 g.len) (.int .i64 (-1)) HR.out
        have r0 : wE.frozen? ⟨w.heap.size + 1, 0, none⟩ = _ := HR.out.frozen 0
        have r1 : wE.frozen? ⟨w.heap.size + 1, 1, none⟩ = _ := HR.out.frozen 1
        have r2 : wE.frozen? ⟨w.heap.size + 1, 2, none⟩ = _ := HR.out.frozen 2
        have e0 : wE.cell? ⟨w.heap.size + 1, 0, none⟩ = _ := HR.out.cell 0 _ rfl
        have e1 : wE.cell? ⟨w.heap.size + 1, 1, none⟩ = _ := HR.out.cell 1 _ rfl
        have e2 : wE.cell? ⟨w.heap.size + 1, 2, none⟩ = _ := HR.out.cell 2 _ rfl
        have f0 := hbF.cell 0 _ rfl; have f1 := hbF.cell 1 _ rfl; have f2 := hbF.cell 2 _ rfl
        have HCF := Lib.hid (show Chg [] w wF from HCW.out.trans hcF (fun x hx => .inr (by simp at hx; omega)))
        clear hcF hbF
        refine wp_region_T [] rfl (by kernel_rfl) rfl ?_
        rw [← hwD]
        clear hwD
        have hS : Chg [] wE wE := Chg.refl _ _
        repeat
          (with_reducible show wpX _ _ _ _ _ _ _ _
           first
             | refine wpX_nil ?_
             | refine wpX_skip rfl ?_
             | refine wpX_mv rfl rfl (by kernel_rfl) (fun _ _ => ?_)
             | refine wpX_ldC rfl rfl rfl (by first | exact Z1.out | exact Z2.out | exact Z3.out | exact Z4.out) (by assumption) (fun _ _ => ?_)
             | refine wpX_ef' rfl rfl rfl (fun _ _ => ?_)
           go_wp2_with fail)
        refine stepX_ef rfl rfl (fun _ _ => ?_)
        change Oper.wp _ (Oper.mk ..) ..
        go_wp2_with fail
        refine bodyPost_ret (v := .agg #[str n, .int .i64 g.len, .int .i64 (-1)]) (by simp [results, Tryz.results70, go_sem, f0, f1, f2]) rfl ?_
        rw [HFD.out]
        exact ⟨HCF.out, rfl⟩
      | none =>
        cases hp : c.procs.find? (fun x => x.name == n) with
        | none =>
          have HFD := Lib.hid (show c.find p [] n = .bad 7 p by rw [Env.find, if_neg (by simp), if_neg hnl, hg, hp])
          clear hl hnl
          go_enter Tryz.func70, Tryz.ntmps70
          go_wp2_with fail
          obtain ⟨wD, hwD⟩ : ∃ x, x = w0.drew := ⟨_, rfl⟩
          clear b0 x1 x3 x4 k1 k2 k3 k5 k6
          have hWD : Chg [] w0 wD := by rw [hwD]; exact (Chg.refl [] w0).drew
          have HCW := Lib.hid (HCW.out.then hWD); have HC0 := Lib.hid (HC0.out.then hWD)
          have HB := Lib.hid (HB.out.kept hWD (by simp)); have HX := Lib.hid (HX.out.kept hWD (by simp)); have HK := Lib.hid (HK.out.kept hWD (by simp)); have HR := Lib.hid (HR.out.kept hWD (by simp))
          clear hWD
          have b0 : wD.cell? ⟨w.heap.size, 0, none⟩ = _ := HB.out.cell 0 _ rfl
          have x1 : wD.cell? ⟨be, 1, none⟩ = _ := HX.out.cell 1 _ rfl
          have x3 : wD.cell? ⟨be, 3, none⟩ = _ := HX.out.cell 3 _ rfl
          have x4 : wD.cell? ⟨be, 4, none⟩ = _ := HX.out.cell 4 _ rfl
          have k1 : wD.cell? ⟨bc, 1, none⟩ = _ := HK.out.cell 1 _ rfl
          have k2 : wD.cell? ⟨bc, 2, none⟩ = _ := HK.out.cell 2 _ rfl
          have k3 : wD.cell? ⟨bc, 3, none⟩ = _ := HK.out.cell 3 _ rfl
          have k5 : wD.cell? ⟨bc, 5, none⟩ = _ := HK.out.cell 5 _ rfl
          have k6 : wD.cell? ⟨bc, 6, none⟩ = _ := HK.out.cell 6 _ rfl
          have Z1 := Lib.hid (Zone.of (X := []) (w0 := wD) b0 (by simp))
          have Z2 := Lib.hid (Zone.of (X := []) (w0 := wD) x1 (by simp))
          have Z3 := Lib.hid (Zone.of (X := []) (w0 := wD) k1 (by simp))
          refine wp_region_C [] rfl (by kernel_rfl) ?_
          rw [← hwD]
          clear hwD
          have hS : Chg [] wD wD := Chg.refl _ _
          repeat
            (with_reducible show wpX _ _ _ _ _ _ _ _
             first
               | refine wpX_nil ?_
               | refine wpX_skip rfl ?_
               | refine wpX_mv rfl rfl (by kernel_rfl) (fun _ _ => ?_)
               | refine wpX_ldC rfl rfl rfl (by first | exact Z1.out | exact Z2.out | exact Z3.out) (by assumption) (fun _ _ => ?_)
               | refine wpX_ef' rfl rfl rfl (fun _ _ => ?_)
             go_wp2_with fail)
          refine (HCT.out _ HC0.out).mono ?_; rintro _ _ ⟨rfl, hw⟩; have hw := hw.symm; subst hw
          go_wp2_with fail
          refine And.intro hS ?_
          repeat
            (with_reducible show wpX _ _ _ _ _ _ _ _
             first
               | refine wpX_nil ?_
               | refine wpX_skip rfl ?_
               | refine wpX_mv rfl rfl (by kernel_rfl) (fun _ _ => ?_)
               | refine wpX_ldC rfl rfl rfl (by first | exact Z1.out | exact Z2.out | exact Z3.out) (by assumption) (fun _ _ => ?_)
               | refine wpX_ef' rfl rfl rfl (fun _ _ => ?_)
             go_wp2_with fail)
          clear hS Z1 Z2 Z3
          go_wp2_with fail
          refine (HIG.out _ HC0.out).mono ?_; rintro _ w2 ⟨hat, hc2⟩
          rw [At1, hg] at hat
          clear b0 x1 x3 x4 k1 k2 k3 k5 k6
          have hWD : Chg [] wD w2 := hc2
          have HCW := Lib.hid (HCW.out.then hWD); have HC0 := Lib.hid (HC0.out.then hWD)
          have HB := Lib.hid (HB.out.kept hWD (by simp)); have HX := Lib.hid (HX.out.kept hWD (by simp)); have HK := Lib.hid (HK.out.kept hWD (by simp)); have HR := Lib.hid (HR.out.kept hWD (by simp))
          clear hWD
          have b0 : w2.cell? ⟨w.heap.size, 0, none⟩ = _ := HB.out.cell 0 _ rfl
          have x1 : w2.cell? ⟨be, 1, none⟩ = _ := HX.out.cell 1 _ rfl
          have x3 : w2.cell? ⟨be, 3, none⟩ = _ := HX.out.cell 3 _ rfl
          have x4 : w2.cell? ⟨be, 4, none⟩ = _ := HX.out.cell 4 _ rfl
          have k1 : w2.cell? ⟨bc, 1, none⟩ = _ := HK.out.cell 1 _ rfl
          have k2 : w2.cell? ⟨bc, 2, none⟩ = _ := HK.out.cell 2 _ rfl
          have k3 : w2.cell? ⟨bc, 3, none⟩ = _ := HK.out.cell 3 _ rfl
          have k5 : w2.cell? ⟨bc, 5, none⟩ = _ := HK.out.cell 5 _ rfl
          have k6 : w2.cell? ⟨bc, 6, none⟩ = _ := HK.out.cell 6 _ rfl
          clear hc2
          subst hat
          go_wp2_with fail
          refine (HIP.out _ HC0.out).mono ?_; rintro _ w3 ⟨hat, hc2⟩
          rw [At1, hp] at hat
          clear b0 x1 x3 x4 k1 k2 k3 k5 k6
          have hWD : Chg [] w2 w3 := hc2
          have HCW := Lib.hid (HCW.out.then hWD); have HC0 := Lib.hid (HC0.out.then hWD)
          have HB := Lib.hid (HB.out.kept hWD (by simp)); have HX := Lib.hid (HX.out.kept hWD (by simp)); have HK := Lib.hid (HK.out.kept hWD (by simp)); have HR := Lib.hid (HR.out.kept hWD (by simp))
          clear hWD
          have b0 : w3.cell? ⟨w.heap.size, 0, none⟩ = _ := HB.out.cell 0 _ rfl
          have x1 : w3.cell? ⟨be, 1, none⟩ = _ := HX.out.cell 1 _ rfl
          have x3 : w3.cell? ⟨be, 3, none⟩ = _ := HX.out.cell 3 _ rfl
          have x4 : w3.cell? ⟨be, 4, none⟩ = _ := HX.out.cell 4 _ rfl
          have k1 : w3.cell? ⟨bc, 1, none⟩ = _ := HK.out.cell 1 _ rfl
          have k2 : w3.cell? ⟨bc, 2, none⟩ = _ := HK.out.cell 2 _ rfl
          have k3 : w3.cell? ⟨bc, 3, none⟩ = _ := HK.out.cell 3 _ rfl
          have k5 : w3.cell? ⟨bc, 5, none⟩ = _ := HK.out.cell 5 _ rfl
          have k6 : w3.cell? ⟨bc, 6, none⟩ = _ := HK.out.cell 6 _ rfl
          clear hc2
          subst hat
          go_wp2_with fail
          refine (cfail_any 7 p _).mono ?_
          rintro _ w9 ⟨hc, b9, rfl, hlt, hb9⟩
          have HC9 := Lib.hid (HCW.out.then hc); have HB9 := Lib.hid hb9; have HLT := Lib.hid hlt
          have hsz := HCW.out.size
          clear hc hb9 hlt
          go_wp2_with fail
          rw [HFD.out]
          exact ⟨rfl, HC9.out, b9, rfl, by have := HLT.out; omega, HB9.out⟩
        | some x =>
          have HFD := Lib.hid (show c.find p [] n = .is ⟨n, 0, x.params.length⟩ by rw [Env.find, if_neg (by simp), if_neg hnl, hg, hp])
          clear hl hnl
          go_enter Tryz.func70, Tryz.ntmps70
          go_wp2_with fail
          obtain ⟨wD, hwD⟩ : ∃ x, x = w0.drew := ⟨_, rfl⟩
          clear b0 x1 x3 x4 k1 k2 k3 k5 k6
          have hWD : Chg [] w0 wD := by rw [hwD]; exact (Chg.refl [] w0).drew
          have HCW := Lib.hid (HCW.out.then hWD); have HC0 := Lib.hid (HC0.out.then hWD)
          have HB := Lib.hid (HB.out.kept hWD (by simp)); have HX := Lib.hid (HX.out.kept hWD (by simp)); have HK := Lib.hid (HK.out.kept hWD (by simp)); have HR := Lib.hid (HR.out.kept hWD (by simp))
          clear hWD
          have b0 : wD.cell? ⟨w.heap.size, 0, none⟩ = _ := HB.out.cell 0 _ rfl
          have x1 : wD.cell? ⟨be, 1, none⟩ = _ := HX.out.cell 1 _ rfl
          have x3 : wD.cell? ⟨be, 3, none⟩ = _ := HX.out.cell 3 _ rfl
          have x4 : wD.cell? ⟨be, 4, none⟩ = _ := HX.out.cell 4 _ rfl
          have k1 : wD.cell? ⟨bc, 1, none⟩ = _ := HK.out.cell 1 _ rfl
          have k2 : wD.cell? ⟨bc, 2, none⟩ = _ := HK.out.cell 2 _ rfl
          have k3 : wD.cell? ⟨bc, 3, none⟩ = _ := HK.out.cell 3 _ rfl
          have k5 : wD.cell? ⟨bc, 5, none⟩ = _ := HK.out.cell 5 _ rfl
          have k6 : wD.cell? ⟨bc, 6, none⟩ = _ := HK.out.cell 6 _ rfl
          have Z1 := Lib.hid (Zone.of (X := []) (w0 := wD) b0 (by simp))
          have Z2 := Lib.hid (Zone.of (X := []) (w0 := wD) x1 (by simp))
          have Z3 := Lib.hid (Zone.of (X := []) (w0 := wD) k1 (by simp))
          refine wp_region_C [] rfl (by kernel_rfl) ?_
          rw [← hwD]
          clear hwD
          have hS : Chg [] wD wD := Chg.refl _ _
          repeat
            (with_reducible show wpX _ _ _ _ _ _ _ _
             first
               | refine wpX_nil ?_
               | refine wpX_skip rfl ?_
               | refine wpX_mv rfl rfl (by kernel_rfl) (fun _ _ => ?_)
               | refine wpX_ldC rfl rfl rfl (by first | exact Z1.out | exact Z2.out | exact Z3.out) (by assumption) (fun _ _ => ?_)
               | refine wpX_ef' rfl rfl rfl (fun _ _ => ?_)
             go_wp2_with fail)
          refine (HCT.out _ HC0.out).mono ?_; rintro _ _ ⟨rfl, hw⟩; have hw := hw.symm; subst hw
          go_wp2_with fail
          refine And.intro hS ?_
          repeat
            (with_reducible show wpX _ _ _ _ _ _ _ _
             first
               | refine wpX_nil ?_
               | refine wpX_skip rfl ?_
               | refine wpX_mv rfl rfl (by kernel_rfl) (fun _ _ => ?_)
               | refine wpX_ldC rfl rfl rfl (by first | exact Z1.out | exact Z2.out | exact Z3.out) (by assumption) (fun _ _ => ?_)
               | refine wpX_ef' rfl rfl rfl (fun _ _ => ?_)
             go_wp2_with fail)
          clear hS Z1 Z2 Z3
          go_wp2_with fail
          refine (HIG.out _ HC0.out).mono ?_; rintro _ w2 ⟨hat, hc2⟩
          rw [At1, hg] at hat
          clear b0 x1 x3 x4 k1 k2 k3 k5 k6
          have hWD : Chg [] wD w2 := hc2
          have HCW := Lib.hid (HCW.out.then hWD); have HC0 := Lib.hid (HC0.out.then hWD)
          have HB := Lib.hid (HB.out.kept hWD (by simp)); have HX := Lib.hid (HX.out.kept hWD (by simp)); have HK := Lib.hid (HK.out.kept hWD (by simp)); have HR := Lib.hid (HR.out.kept hWD (by simp))
          clear hWD
          have b0 : w2.cell? ⟨w.heap.size, 0, none⟩ = _ := HB.out.cell 0 _ rfl
          have x1 : w2.cell? ⟨be, 1, none⟩ = _ := HX.out.cell 1 _ rfl
          have x3 : w2.cell? ⟨be, 3, none⟩ = _ := HX.out.cell 3 _ rfl
          have x4 : w2.cell? ⟨be, 4, none⟩ = _ := HX.out.cell 4 _ rfl
          have k1 : w2.cell? ⟨bc, 1, none⟩ = _ := HK.out.cell 1 _ rfl
          have k2 : w2.cell? ⟨bc, 2, none⟩ = _ := HK.out.cell 2 _ rfl
          have k3 : w2.cell? ⟨bc, 3, none⟩ = _ := HK.out.cell 3 _ rfl
          have k5 : w2.cell? ⟨bc, 5, none⟩ = _ := HK.out.cell 5 _ rfl
          have k6 : w2.cell? ⟨bc, 6, none⟩ = _ := HK.out.cell 6 _ rfl
          clear hc2
          subst hat
          go_wp2_with fail
          refine (HIP.out _ HC0.out).mono ?_; rintro _ w3 ⟨hat, hc2⟩
          rw [At1, hp] at hat
          clear b0 x1 x3 x4 k1 k2 k3 k5 k6
          have hWD : Chg [] w2 w3 := hc2
          have HCW := Lib.hid (HCW.out.then hWD); have HC0 := Lib.hid (HC0.out.then hWD)
          have HB := Lib.hid (HB.out.kept hWD (by simp)); have HX := Lib.hid (HX.out.kept hWD (by simp)); have HK := Lib.hid (HK.out.kept hWD (by simp)); have HR := Lib.hid (HR.out.kept hWD (by simp))
          clear hWD
          have b0 : w3.cell? ⟨w.heap.size, 0, none⟩ = _ := HB.out.cell 0 _ rfl
          have x1 : w3.cell? ⟨be, 1, none⟩ = _ := HX.out.cell 1 _ rfl
          have x3 : w3.cell? ⟨be, 3, none⟩ = _ := HX.out.cell 3 _ rfl
          have x4 : w3.cell? ⟨be, 4, none⟩ = _ := HX.out.cell 4 _ rfl
          have k1 : w3.cell? ⟨bc, 1, none⟩ = _ := HK.out.cell 1 _ rfl
          have k2 : w3.cell? ⟨bc, 2, none⟩ = _ := HK.out.cell 2 _ rfl
          have k3 : w3.cell? ⟨bc, 3, none⟩ = _ := HK.out.cell 3 _ rfl
          have k5 : w3.cell? ⟨bc, 5, none⟩ = _ := HK.out.cell 5 _ rfl
          have k6 : w3.cell? ⟨bc, 6, none⟩ = _ := HK.out.cell 6 _ rfl
          clear hc2
          obtain ⟨k, hk, rfl⟩ := hat
          have hlt : k < c.procs.length := (List.getElem?_eq_some_iff.1 hk).1
          obtain ⟨bb, off, cp, pos, a1, q1, a2, n2, q2, a3, n3, q3, hvv, _, _, _, _, d2, _, _⟩ := proc_cells (HPV.out.kept HC0.out (by simp)) hk
          subst hvv
          have HD2 := Lib.hid d2
          clear hk d2
          go_wp2_with fail
          have HD2 := Lib.hid (show w3.drew.cell? _ = _ from HD2.out)
          obtain ⟨wE, hwD⟩ : ∃ x, x = w3.drew := ⟨_, rfl⟩
          clear b0 x1 x3 x4 k1 k2 k3 k5 k6
          have hWD : Chg [] w3 wE := by rw [hwD]; exact (Chg.refl [] w3).drew
          have HCW := Lib.hid (HCW.out.then hWD); have HC0 := Lib.hid (HC0.out.then hWD)
          have HB := Lib.hid (HB.out.kept hWD (by simp)); have HX := Lib.hid (HX.out.kept hWD (by simp)); have HK := Lib.hid (HK.out.kept hWD (by simp)); have HR := Lib.hid (HR.out.kept hWD (by simp))
          clear hWD
          have b0 : wE.cell? ⟨w.heap.size, 0, none⟩ = _ := HB.out.cell 0 _ rfl
          have x1 : wE.cell? ⟨be, 1, none⟩ = _ := HX.out.cell 1 _ rfl
          have x3 : wE.cell? ⟨be, 3, none⟩ = _ := HX.out.cell 3 _ rfl
          have x4 : wE.cell? ⟨be, 4, none⟩ = _ := HX.out.cell 4 _ rfl
          have k1 : wE.cell? ⟨bc, 1, none⟩ = _ := HK.out.cell 1 _ rfl
          have k2 : wE.cell? ⟨bc, 2, none⟩ = _ := HK.out.cell 2 _ rfl
          have k3 : wE.cell? ⟨bc, 3, none⟩ = _ := HK.out.cell 3 _ rfl
          have k5 : wE.cell? ⟨bc, 5, none⟩ = _ := HK.out.cell 5 _ rfl
          have k6 : wE.cell? ⟨bc, 6, none⟩ = _ := HK.out.cell 6 _ rfl
          have Z1 := Lib.hid (Zone.of (X := []) (w0 := wE) b0 (by simp))
          have Z2 := Lib.hid (Zone.of (X := []) (w0 := wE) x1 (by simp))
          have Z3 := Lib.hid (Zone.of (X := []) (w0 := wE) k1 (by simp))
          have d2 : wE.cell? ⟨bb, off + k * 6 + 3, none⟩ = some (.slice a1 x.params.length q1) := by rw [hwD]; exact HD2.out
          have Z4 := Lib.hid (Zone.of (X := []) (w0 := wE) d2 (by simp))
          obtain ⟨wF, hwF, hcF, hbF⟩ := set3 (str n) (.int .i64 0) (.int .i64 x.params.length) HR.out
          have r0 : wE.frozen? ⟨w.heap.size + 1, 0, none⟩ = _ := HR.out.frozen 0
          have r1 : wE.frozen? ⟨w.heap.size + 1, 1, none⟩ = _ := HR.out.frozen 1
          have r2 : wE.frozen? ⟨w.heap.size + 1, 2, none⟩ = _ := HR.out.frozen 2
          have e0 : wE.cell? ⟨w.heap.size + 1, 0, none⟩ = _ := HR.out.cell 0 _ rfl
          have e1 : wE.cell? ⟨w.heap.size + 1, 1, none⟩ = _ := HR.out.cell 1 _ rfl
          have e2 : wE.cell? ⟨w.heap.size + 1, 2, none⟩ = _ := HR.out.cell 2 _ rfl
          have f0 := hbF.cell 0 _ rfl; have f1 := hbF.cell 1 _ rfl; have f2 := hbF.cell 2 _ rfl
          have HCF := Lib.hid (show Chg [] w wF from HCW.out.trans hcF (fun x hx => .inr (by simp at hx; omega)))
          clear hcF hbF
          refine wp_region_T [] rfl (by kernel_rfl) rfl ?_
          rw [← hwD]
          clear hwD
          have hS : Chg [] wE wE := Chg.refl _ _
          repeat
            (with_reducible show wpX _ _ _ _ _ _ _ _
             first
               | refine wpX_nil ?_
               | refine wpX_skip rfl ?_
               | refine wpX_mv rfl rfl (by kernel_rfl) (fun _ _ => ?_)
               | refine wpX_ldC rfl rfl rfl (by first | exact Z1.out | exact Z2.out | exact Z3.out | exact Z4.out) (by assumption) (fun _ _ => ?_)
               | refine wpX_ef' rfl rfl rfl (fun _ _ => ?_)
             go_wp2_with fail)
          refine stepX_ef rfl rfl (fun _ _ => ?_)
          change Oper.wp _ (Oper.mk ..) ..
          go_wp2_with fail
          refine bodyPost_ret (v := .agg #[str n, .int .i64 0, .int .i64 x.params.length]) (by simp [results, Tryz.results70, go_sem, f0, f1, f2]) rfl ?_
          rw [HFD.out]
          exact ⟨HCF.out, rfl⟩
  | cons ch mr =>
    have hmn : ch :: mr ≠ [] := by simp
    obtain ⟨m, hm⟩ : ∃ m, m = ch :: mr := ⟨_, rfl⟩
    rw [← hm] at HCM hmn HX x1 x3 x4 ⊢
    have hme : m.isEmpty = false := by rw [hm]; rfl
    clear hm HCT HIG HIP
    cases hi : decide (m ∈ c.imports) with
    | false =>
      rw [hi] at HCM
      have HFD := Lib.hid (show c.find p m n = .bad 5 p by rw [Env.find, if_pos hmn, if_pos (by simpa using hi)])
      clear hi
      go_enter Tryz.func70, Tryz.ntmps70
      go_wp2_with fail
      obtain ⟨wD, hwD⟩ : ∃ x, x = w0.drew := ⟨_, rfl⟩
      clear b0 x1 x3 x4 k1 k2 k3 k5 k6
      have hWD : Chg [] w0 wD := by rw [hwD]; exact (Chg.refl [] w0).drew
      have HCW := Lib.hid (HCW.out.then hWD); have HC0 := Lib.hid (HC0.out.then hWD)
      have HB := Lib.hid (HB.out.kept hWD (by simp)); have HX := Lib.hid (HX.out.kept hWD (by simp)); have HK := Lib.hid (HK.out.kept hWD (by simp)); have HR := Lib.hid (HR.out.kept hWD (by simp))
      clear hWD
      have b0 : wD.cell? ⟨w.heap.size, 0, none⟩ = _ := HB.out.cell 0 _ rfl
      have x1 : wD.cell? ⟨be, 1, none⟩ = _ := HX.out.cell 1 _ rfl
      have x3 : wD.cell? ⟨be, 3, none⟩ = _ := HX.out.cell 3 _ rfl
      have x4 : wD.cell? ⟨be, 4, none⟩ = _ := HX.out.cell 4 _ rfl
      have k1 : wD.cell? ⟨bc, 1, none⟩ = _ := HK.out.cell 1 _ rfl
      have k2 : wD.cell? ⟨bc, 2, none⟩ = _ := HK.out.cell 2 _ rfl
      have k3 : wD.cell? ⟨bc, 3, none⟩ = _ := HK.out.cell 3 _ rfl
      have k5 : wD.cell? ⟨bc, 5, none⟩ = _ := HK.out.cell 5 _ rfl
      have k6 : wD.cell? ⟨bc, 6, none⟩ = _ := HK.out.cell 6 _ rfl
      have Z1 := Lib.hid (Zone.of (X := []) (w0 := wD) b0 (by simp))
      have Z2 := Lib.hid (Zone.of (X := []) (w0 := wD) x1 (by simp))
      have Z3 := Lib.hid (Zone.of (X := []) (w0 := wD) k1 (by simp))
      refine wp_region_C [] rfl (by kernel_rfl) ?_
      rw [← hwD]
      clear hwD
      have hS : Chg [] wD wD := Chg.refl _ _
      repeat
        (with_reducible show wpX _ _ _ _ _ _ _ _
         first
           | refine wpX_nil ?_
           | refine wpX_skip rfl ?_
           | refine wpX_mv rfl rfl (by kernel_rfl) (fun _ _ => ?_)
           | refine wpX_ldC rfl rfl rfl (by first | exact Z1.out | exact Z2.out | exact Z3.out) (by assumption) (fun _ _ => ?_)
           | refine wpX_ef' rfl rfl rfl (fun _ _ => ?_)
         go_wp2_with fail)
      refine (HCM.out _ HC0.out).mono ?_; rintro _ _ ⟨rfl, hw⟩; have hw := hw.symm; subst hw
      go_wp2_with fail
      refine And.intro hS ?_
      repeat
        (with_reducible show wpX _ _ _ _ _ _ _ _
         first
           | refine wpX_nil ?_
           | refine wpX_skip rfl ?_
           | refine wpX_mv rfl rfl (by kernel_rfl) (fun _ _ => ?_)
           | refine wpX_ldC rfl rfl rfl (by first | exact Z1.out | exact Z2.out | exact Z3.out) (by assumption) (fun _ _ => ?_)
           | refine wpX_ef' rfl rfl rfl (fun _ _ => ?_)
         go_wp2_with fail)
      clear hS Z1 Z2 Z3
      go_wp2_with fail
      refine (cfail_any 5 p _).mono ?_
      rintro _ w9 ⟨hc, b9, rfl, hlt, hb9⟩
      have HC9 := Lib.hid (HCW.out.then hc); have HB9 := Lib.hid hb9; have HLT := Lib.hid hlt
      have hsz := HCW.out.size
      clear hc hb9 hlt
      go_wp2_with fail
      rw [HFD.out]
      exact ⟨rfl, HC9.out, b9, rfl, by have := HLT.out; omega, HB9.out⟩
    | true =>
      rw [hi] at HCM
      have him : m ∈ c.imports := by simpa using hi
      obtain ⟨u, hlk, _, hfew, hsy⟩ := look_seen HSV.out m
      obtain ⟨l, hl⟩ : ∃ l, l = (c.seen m).getD [] := ⟨_, rfl⟩
      rw [← hl] at hfew hsy
      have HLK := Lib.hid hlk; have HSY := Lib.hid hsy
      have HFC := Lib.hid (show ∀ w', Chg [] w0 w' → Calls Tryz.prog 77 #[u, str n] w' (fun e w'' => e = .returned (.int .i64 (findI l n)) ∧ Chg [] w' w'') from fun w' hc => find_any l hfew n F u w' (HSY.out.kept hc (by simp)))
      clear hlk hsy hi
      cases hf : findS l n with
      | none =>
        rw [show findI l n = -1 by rw [findI, hf]] at HFC
        have HFD := Lib.hid (show c.find p m n = .bad 7 p by rw [Env.find, if_pos hmn, if_neg (by simpa using him), ← hl, hf])
        clear hl him hf
        go_enter Tryz.func70, Tryz.ntmps70
        go_wp2_with fail
        obtain ⟨wD, hwD⟩ : ∃ x, x = w0.drew := ⟨_, rfl⟩
        clear b0 x1 x3 x4 k1 k2 k3 k5 k6
        have hWD : Chg [] w0 wD := by rw [hwD]; exact (Chg.refl [] w0).drew
        have HCW := Lib.hid (HCW.out.then hWD); have HC0 := Lib.hid (HC0.out.then hWD)
        have HB := Lib.hid (HB.out.kept hWD (by simp)); have HX := Lib.hid (HX.out.kept hWD (by simp)); have HK := Lib.hid (HK.out.kept hWD (by simp)); have HR := Lib.hid (HR.out.kept hWD (by simp))
        clear hWD
        have b0 : wD.cell? ⟨w.heap.size, 0, none⟩ = _ := HB.out.cell 0 _ rfl
        have x1 : wD.cell? ⟨be, 1, none⟩ = _ := HX.out.cell 1 _ rfl
        have x3 : wD.cell? ⟨be, 3, none⟩ = _ := HX.out.cell 3 _ rfl
        have x4 : wD.cell? ⟨be, 4, none⟩ = _ := HX.out.cell 4 _ rfl
        have k1 : wD.cell? ⟨bc, 1, none⟩ = _ := HK.out.cell 1 _ rfl
        have k2 : wD.cell? ⟨bc, 2, none⟩ = _ := HK.out.cell 2 _ rfl
        have k3 : wD.cell? ⟨bc, 3, none⟩ = _ := HK.out.cell 3 _ rfl
        have k5 : wD.cell? ⟨bc, 5, none⟩ = _ := HK.out.cell 5 _ rfl
        have k6 : wD.cell? ⟨bc, 6, none⟩ = _ := HK.out.cell 6 _ rfl
        have Z1 := Lib.hid (Zone.of (X := []) (w0 := wD) b0 (by simp))
        have Z2 := Lib.hid (Zone.of (X := []) (w0 := wD) x1 (by simp))
        have Z3 := Lib.hid (Zone.of (X := []) (w0 := wD) k1 (by simp))
        refine wp_region_C [] rfl (by kernel_rfl) ?_
        rw [← hwD]
        clear hwD
        have hS : Chg [] wD wD := Chg.refl _ _
        repeat
          (with_reducible show wpX _ _ _ _ _ _ _ _
           first
             | refine wpX_nil ?_
             | refine wpX_skip rfl ?_
             | refine wpX_mv rfl rfl (by kernel_rfl) (fun _ _ => ?_)
             | refine wpX_ldC rfl rfl rfl (by first | exact Z1.out | exact Z2.out | exact Z3.out) (by assumption) (fun _ _ => ?_)
             | refine wpX_ef' rfl rfl rfl (fun _ _ => ?_)
           go_wp2_with fail)
        refine (HCM.out _ HC0.out).mono ?_; rintro _ _ ⟨rfl, hw⟩; have hw := hw.symm; subst hw
        go_wp2_with fail
        refine And.intro hS ?_
        repeat
          (with_reducible show wpX _ _ _ _ _ _ _ _
           first
             | refine wpX_nil ?_
             | refine wpX_skip rfl ?_
             | refine wpX_mv rfl rfl (by kernel_rfl) (fun _ _ => ?_)
             | refine wpX_ldC rfl rfl rfl (by first | exact Z1.out | exact Z2.out | exact Z3.out) (by assumption) (fun _ _ => ?_)
             | refine wpX_ef' rfl rfl rfl (fun _ _ => ?_)
           go_wp2_with fail)
        clear hS Z1 Z2 Z3
        go_wp2_with fail
        obtain ⟨wE, hwD⟩ : ∃ x, x = wD.drew := ⟨_, rfl⟩
        clear b0 x1 x3 x4 k1 k2 k3 k5 k6
        have hWD : Chg [] wD wE := by rw [hwD]; exact (Chg.refl [] wD).drew
        have HCW := Lib.hid (HCW.out.then hWD); have HC0 := Lib.hid (HC0.out.then hWD)
        have HB := Lib.hid (HB.out.kept hWD (by simp)); have HX := Lib.hid (HX.out.kept hWD (by simp)); have HK := Lib.hid (HK.out.kept hWD (by simp)); have HR := Lib.hid (HR.out.kept hWD (by simp))
        clear hWD
        have b0 : wE.cell? ⟨w.heap.size, 0, none⟩ = _ := HB.out.cell 0 _ rfl
        have x1 : wE.cell? ⟨be, 1, none⟩ = _ := HX.out.cell 1 _ rfl
        have x3 : wE.cell? ⟨be, 3, none⟩ = _ := HX.out.cell 3 _ rfl
        have x4 : wE.cell? ⟨be, 4, none⟩ = _ := HX.out.cell 4 _ rfl
        have k1 : wE.cell? ⟨bc, 1, none⟩ = _ := HK.out.cell 1 _ rfl
        have k2 : wE.cell? ⟨bc, 2, none⟩ = _ := HK.out.cell 2 _ rfl
        have k3 : wE.cell? ⟨bc, 3, none⟩ = _ := HK.out.cell 3 _ rfl
        have k5 : wE.cell? ⟨bc, 5, none⟩ = _ := HK.out.cell 5 _ rfl
        have k6 : wE.cell? ⟨bc, 6, none⟩ = _ := HK.out.cell 6 _ rfl
        have Z1 := Lib.hid (Zone.of (X := []) (w0 := wE) b0 (by simp))
        have Z2 := Lib.hid (Zone.of (X := []) (w0 := wE) x1 (by simp))
        have Z3 := Lib.hid (Zone.of (X := []) (w0 := wE) k1 (by simp))
        refine wp_region_C [] rfl (by kernel_rfl) ?_
        rw [← hwD]
        clear hwD
        have hS : Chg [] wE wE := Chg.refl _ _
        have hlu : (Instr.lookup 34 vm (str m) false).run Tryz.prog wE = .ok u wE := HLK.out wE HC0.out
        repeat
          (with_reducible show wpX _ _ _ _ _ _ _ _
           first
             | refine wpX_nil ?_
             | refine wpX_skip rfl ?_
             | refine wpX_mv rfl rfl (by kernel_rfl) (fun _ _ => ?_)
             | refine wpX_ldC rfl rfl rfl (by first | exact Z1.out | exact Z2.out | exact Z3.out) (by assumption) (fun _ _ => ?_)
             | refine wpX_ef' rfl rfl rfl (fun _ _ => ?_)
           go_wp2_with fail)
        refine And.intro hS ?_
        repeat
          (with_reducible show wpX _ _ _ _ _ _ _ _
           first
             | refine wpX_nil ?_
             | refine wpX_skip rfl ?_
             | refine wpX_mv rfl rfl (by kernel_rfl) (fun _ _ => ?_)
             | refine wpX_ldC rfl rfl rfl (by first | exact Z1.out | exact Z2.out | exact Z3.out) (by assumption) (fun _ _ => ?_)
             | refine wpX_ef' rfl rfl rfl (fun _ _ => ?_)
           go_wp2_with fail)
        refine (HFC.out _ HC0.out).mono ?_; rintro _ w2 ⟨rfl, hc2⟩
        have hS : Chg [] wE w2 := hc2
        clear b0 x1 x3 x4 k1 k2 k3 k5 k6
        have hWD : Chg [] wE w2 := hc2
        have HCW := Lib.hid (HCW.out.then hWD); have HC0 := Lib.hid (HC0.out.then hWD)
        have HB := Lib.hid (HB.out.kept hWD (by simp)); have HX := Lib.hid (HX.out.kept hWD (by simp)); have HK := Lib.hid (HK.out.kept hWD (by simp)); have HR := Lib.hid (HR.out.kept hWD (by simp))
        clear hWD
        have b0 : w2.cell? ⟨w.heap.size, 0, none⟩ = _ := HB.out.cell 0 _ rfl
        have x1 : w2.cell? ⟨be, 1, none⟩ = _ := HX.out.cell 1 _ rfl
        have x3 : w2.cell? ⟨be, 3, none⟩ = _ := HX.out.cell 3 _ rfl
        have x4 : w2.cell? ⟨be, 4, none⟩ = _ := HX.out.cell 4 _ rfl
        have k1 : w2.cell? ⟨bc, 1, none⟩ = _ := HK.out.cell 1 _ rfl
        have k2 : w2.cell? ⟨bc, 2, none⟩ = _ := HK.out.cell 2 _ rfl
        have k3 : w2.cell? ⟨bc, 3, none⟩ = _ := HK.out.cell 3 _ rfl
        have k5 : w2.cell? ⟨bc, 5, none⟩ = _ := HK.out.cell 5 _ rfl
        have k6 : w2.cell? ⟨bc, 6, none⟩ = _ := HK.out.cell 6 _ rfl
        clear hc2
        go_wp2_with fail
        refine And.intro hS ?_
        repeat
          (with_reducible show wpX _ _ _ _ _ _ _ _
           first
             | refine wpX_nil ?_
             | refine wpX_skip rfl ?_
             | refine wpX_mv rfl rfl (by kernel_rfl) (fun _ _ => ?_)
             | refine wpX_ldC rfl rfl rfl (by first | exact Z1.out | exact Z2.out | exact Z3.out) (by assumption) (fun _ _ => ?_)
             | refine wpX_ef' rfl rfl rfl (fun _ _ => ?_)
           go_wp2_with fail)
        clear hS Z1 Z2 Z3
        go_wp2_with fail
        refine (cfail_any 7 p _).mono ?_
        rintro _ w9 ⟨hc, b9, rfl, hlt, hb9⟩
        have HC9 := Lib.hid (HCW.out.then hc); have HB9 := Lib.hid hb9; have HLT := Lib.hid hlt
        have hsz := HCW.out.size
        clear hc hb9 hlt
        go_wp2_with fail
        rw [HFD.out]
        exact ⟨rfl, HC9.out, b9, rfl, by have := HLT.out; omega, HB9.out⟩
      | some k =>
        rw [show findI l n = k by rw [findI, hf]] at HFC
        have hkl := findS_lt hf
        obtain ⟨s, hs⟩ : ∃ s, l[k]? = some s := ⟨l[k], List.getElem?_eq_getElem hkl⟩
        have HFD := Lib.hid (show c.find p m n = .is s by
          rw [Env.find, if_pos hmn, if_neg (by simpa using him), ← hl, hf]
          simp only [List.getD_eq_getElem?_getD, hs, Option.getD_some])
        obtain ⟨ua, uc, hu, huc, hur, _⟩ := HSY.out
        obtain ⟨bb, off, rfl, d0, d1, d2⟩ := sy_cells3 hur hs
        subst hu
        have HD0 := Lib.hid d0; have HD1 := Lib.hid d1; have HD2 := Lib.hid d2
        clear hl him hf hs hur d0 d1 d2
        go_enter Tryz.func70, Tryz.ntmps70
        go_wp2_with fail
        obtain ⟨wD, hwD⟩ : ∃ x, x = w0.drew := ⟨_, rfl⟩
        clear b0 x1 x3 x4 k1 k2 k3 k5 k6
        have hWD : Chg [] w0 wD := by rw [hwD]; exact (Chg.refl [] w0).drew
        have HCW := Lib.hid (HCW.out.then hWD); have HC0 := Lib.hid (HC0.out.then hWD)
        have HB := Lib.hid (HB.out.kept hWD (by simp)); have HX := Lib.hid (HX.out.kept hWD (by simp)); have HK := Lib.hid (HK.out.kept hWD (by simp)); have HR := Lib.hid (HR.out.kept hWD (by simp))
        clear hWD
        have b0 : wD.cell? ⟨w.heap.size, 0, none⟩ = _ := HB.out.cell 0 _ rfl
        have x1 : wD.cell? ⟨be, 1, none⟩ = _ := HX.out.cell 1 _ rfl
        have x3 : wD.cell? ⟨be, 3, none⟩ = _ := HX.out.cell 3 _ rfl
        have x4 : wD.cell? ⟨be, 4, none⟩ = _ := HX.out.cell 4 _ rfl
        have k1 : wD.cell? ⟨bc, 1, none⟩ = _ := HK.out.cell 1 _ rfl
        have k2 : wD.cell? ⟨bc, 2, none⟩ = _ := HK.out.cell 2 _ rfl
        have k3 : wD.cell? ⟨bc, 3, none⟩ = _ := HK.out.cell 3 _ rfl
        have k5 : wD.cell? ⟨bc, 5, none⟩ = _ := HK.out.cell 5 _ rfl
        have k6 : wD.cell? ⟨bc, 6, none⟩ = _ := HK.out.cell 6 _ rfl
        have Z1 := Lib.hid (Zone.of (X := []) (w0 := wD) b0 (by simp))
        have Z2 := Lib.hid (Zone.of (X := []) (w0 := wD) x1 (by simp))
        have Z3 := Lib.hid (Zone.of (X := []) (w0 := wD) k1 (by simp))
        refine wp_region_C [] rfl (by kernel_rfl) ?_
        rw [← hwD]
        clear hwD
        have hS : Chg [] wD wD := Chg.refl _ _
        repeat
          (with_reducible show wpX _ _ _ _ _ _ _ _
           first
             | refine wpX_nil ?_
             | refine wpX_skip rfl ?_
             | refine wpX_mv rfl rfl (by kernel_rfl) (fun _ _ => ?_)
             | refine wpX_ldC rfl rfl rfl (by first | exact Z1.out | exact Z2.out | exact Z3.out) (by assumption) (fun _ _ => ?_)
             | refine wpX_ef' rfl rfl rfl (fun _ _ => ?_)
           go_wp2_with fail)
        refine (HCM.out _ HC0.out).mono ?_; rintro _ _ ⟨rfl, hw⟩; have hw := hw.symm; subst hw
        go_wp2_with fail
        refine And.intro hS ?_
        repeat
          (with_reducible show wpX _ _ _ _ _ _ _ _
           first
             | refine wpX_nil ?_
             | refine wpX_skip rfl ?_
             | refine wpX_mv rfl rfl (by kernel_rfl) (fun _ _ => ?_)
             | refine wpX_ldC rfl rfl rfl (by first | exact Z1.out | exact Z2.out | exact Z3.out) (by assumption) (fun _ _ => ?_)
             | refine wpX_ef' rfl rfl rfl (fun _ _ => ?_)
           go_wp2_with fail)
        clear hS Z1 Z2 Z3
        go_wp2_with fail
        obtain ⟨wE, hwD⟩ : ∃ x, x = wD.drew := ⟨_, rfl⟩
        clear b0 x1 x3 x4 k1 k2 k3 k5 k6
        have hWD : Chg [] wD wE := by rw [hwD]; exact (Chg.refl [] wD).drew
        have HCW := Lib.hid (HCW.out.then hWD); have HC0 := Lib.hid (HC0.out.then hWD)
        have HB := Lib.hid (HB.out.kept hWD (by simp)); have HX := Lib.hid (HX.out.kept hWD (by simp)); have HK := Lib.hid (HK.out.kept hWD (by simp)); have HR := Lib.hid (HR.out.kept hWD (by simp))
        clear hWD
        have b0 : wE.cell? ⟨w.heap.size, 0, none⟩ = _ := HB.out.cell 0 _ rfl
        have x1 : wE.cell? ⟨be, 1, none⟩ = _ := HX.out.cell 1 _ rfl
        have x3 : wE.cell? ⟨be, 3, none⟩ = _ := HX.out.cell 3 _ rfl
        have x4 : wE.cell? ⟨be, 4, none⟩ = _ := HX.out.cell 4 _ rfl
        have k1 : wE.cell? ⟨bc, 1, none⟩ = _ := HK.out.cell 1 _ rfl
        have k2 : wE.cell? ⟨bc, 2, none⟩ = _ := HK.out.cell 2 _ rfl
        have k3 : wE.cell? ⟨bc, 3, none⟩ = _ := HK.out.cell 3 _ rfl
        have k5 : wE.cell? ⟨bc, 5, none⟩ = _ := HK.out.cell 5 _ rfl
        have k6 : wE.cell? ⟨bc, 6, none⟩ = _ := HK.out.cell 6 _ rfl
        have Z1 := Lib.hid (Zone.of (X := []) (w0 := wE) b0 (by simp))
        have Z2 := Lib.hid (Zone.of (X := []) (w0 := wE) x1 (by simp))
        have Z3 := Lib.hid (Zone.of (X := []) (w0 := wE) k1 (by simp))
        refine wp_region_C [] rfl (by kernel_rfl) ?_
        rw [← hwD]
        clear hwD
        have hS : Chg [] wE wE := Chg.refl _ _
        have hlu : (Instr.lookup 34 vm (str m) false).run Tryz.prog wE = .ok (.slice (some ⟨bb, off, none⟩) l.length uc) wE := HLK.out wE HC0.out
        repeat
          (with_reducible show wpX _ _ _ _ _ _ _ _
           first
             | refine wpX_nil ?_
             | refine wpX_skip rfl ?_
             | refine wpX_mv rfl rfl (by kernel_rfl) (fun _ _ => ?_)
             | refine wpX_ldC rfl rfl rfl (by first | exact Z1.out | exact Z2.out | exact Z3.out) (by assumption) (fun _ _ => ?_)
             | refine wpX_ef' rfl rfl rfl (fun _ _ => ?_)
           go_wp2_with fail)
        refine And.intro hS ?_
        repeat
          (with_reducible show wpX _ _ _ _ _ _ _ _
           first
             | refine wpX_nil ?_
             | refine wpX_skip rfl ?_
             | refine wpX_mv rfl rfl (by kernel_rfl) (fun _ _ => ?_)
             | refine wpX_ldC rfl rfl rfl (by first | exact Z1.out | exact Z2.out | exact Z3.out) (by assumption) (fun _ _ => ?_)
             | refine wpX_ef' rfl rfl rfl (fun _ _ => ?_)
           go_wp2_with fail)
        refine (HFC.out _ HC0.out).mono ?_; rintro _ w2 ⟨rfl, hc2⟩
        have hS : Chg [] wE w2 := hc2
        clear b0 x1 x3 x4 k1 k2 k3 k5 k6
        have hWD : Chg [] wE w2 := hc2
        have HCW := Lib.hid (HCW.out.then hWD); have HC0 := Lib.hid (HC0.out.then hWD)
        have HB := Lib.hid (HB.out.kept hWD (by simp)); have HX := Lib.hid (HX.out.kept hWD (by simp)); have HK := Lib.hid (HK.out.kept hWD (by simp)); have HR := Lib.hid (HR.out.kept hWD (by simp))
        clear hWD
        have b0 : w2.cell? ⟨w.heap.size, 0, none⟩ = _ := HB.out.cell 0 _ rfl
        have x1 : w2.cell? ⟨be, 1, none⟩ = _ := HX.out.cell 1 _ rfl
        have x3 : w2.cell? ⟨be, 3, none⟩ = _ := HX.out.cell 3 _ rfl
        have x4 : w2.cell? ⟨be, 4, none⟩ = _ := HX.out.cell 4 _ rfl
        have k1 : w2.cell? ⟨bc, 1, none⟩ = _ := HK.out.cell 1 _ rfl
        have k2 : w2.cell? ⟨bc, 2, none⟩ = _ := HK.out.cell 2 _ rfl
        have k3 : w2.cell? ⟨bc, 3, none⟩ = _ := HK.out.cell 3 _ rfl
        have k5 : w2.cell? ⟨bc, 5, none⟩ = _ := HK.out.cell 5 _ rfl
        have k6 : w2.cell? ⟨bc, 6, none⟩ = _ := HK.out.cell 6 _ rfl
        clear hc2
        go_wp2_with fail
        refine And.intro hS ?_
        repeat
          (with_reducible show wpX _ _ _ _ _ _ _ _
           first
             | refine wpX_nil ?_
             | refine wpX_skip rfl ?_
             | refine wpX_mv rfl rfl (by kernel_rfl) (fun _ _ => ?_)
             | refine wpX_ldC rfl rfl rfl (by first | exact Z1.out | exact Z2.out | exact Z3.out) (by assumption) (fun _ _ => ?_)
             | refine wpX_ef' rfl rfl rfl (fun _ _ => ?_)
           go_wp2_with fail)
        clear hS Z1 Z2 Z3
        go_wp2_with fail
        obtain ⟨wG, hwD⟩ : ∃ x, x = w2.drew := ⟨_, rfl⟩
        clear b0 x1 x3 x4 k1 k2 k3 k5 k6
        have hWD : Chg [] w2 wG := by rw [hwD]; exact (Chg.refl [] w2).drew
        have HCW := Lib.hid (HCW.out.then hWD); have HC0 := Lib.hid (HC0.out.then hWD)
        have HB := Lib.hid (HB.out.kept hWD (by simp)); have HX := Lib.hid (HX.out.kept hWD (by simp)); have HK := Lib.hid (HK.out.kept hWD (by simp)); have HR := Lib.hid (HR.out.kept hWD (by simp))
        clear hWD
        have b0 : wG.cell? ⟨w.heap.size, 0, none⟩ = _ := HB.out.cell 0 _ rfl
        have x1 : wG.cell? ⟨be, 1, none⟩ = _ := HX.out.cell 1 _ rfl
        have x3 : wG.cell? ⟨be, 3, none⟩ = _ := HX.out.cell 3 _ rfl
        have x4 : wG.cell? ⟨be, 4, none⟩ = _ := HX.out.cell 4 _ rfl
        have k1 : wG.cell? ⟨bc, 1, none⟩ = _ := HK.out.cell 1 _ rfl
        have k2 : wG.cell? ⟨bc, 2, none⟩ = _ := HK.out.cell 2 _ rfl
        have k3 : wG.cell? ⟨bc, 3, none⟩ = _ := HK.out.cell 3 _ rfl
        have k5 : wG.cell? ⟨bc, 5, none⟩ = _ := HK.out.cell 5 _ rfl
        have k6 : wG.cell? ⟨bc, 6, none⟩ = _ := HK.out.cell 6 _ rfl
        have Z1 := Lib.hid (Zone.of (X := []) (w0 := wG) b0 (by simp))
        have Z2 := Lib.hid (Zone.of (X := []) (w0 := wG) x1 (by simp))
        have Z3 := Lib.hid (Zone.of (X := []) (w0 := wG) k1 (by simp))
        have d0 : wG.cell? ⟨bb, off + k * 3, none⟩ = some (str s.name) := HC0.out.cellSome HD0.out (by simp)
        have d1 : wG.cell? ⟨bb, off + k * 3 + 1, none⟩ = some (.int .i64 s.len) := HC0.out.cellSome HD1.out (by simp)
        have d2 : wG.cell? ⟨bb, off + k * 3 + 2, none⟩ = some (.int .i64 s.args) := HC0.out.cellSome HD2.out (by simp)
        have Z4 := Lib.hid (Zone.of (X := []) (w0 := wG) d0 (by simp))
        obtain ⟨wF, hwF, hcF, hbF⟩ := set3 (str s.name) (.int .i64 s.len) (.int .i64 s.args) HR.out
        have r0 : wG.frozen? ⟨w.heap.size + 1, 0, none⟩ = _ := HR.out.frozen 0
        have r1 : wG.frozen? ⟨w.heap.size + 1, 1, none⟩ = _ := HR.out.frozen 1
        have r2 : wG.frozen? ⟨w.heap.size + 1, 2, none⟩ = _ := HR.out.frozen 2
        have e0 : wG.cell? ⟨w.heap.size + 1, 0, none⟩ = _ := HR.out.cell 0 _ rfl
        have e1 : wG.cell? ⟨w.heap.size + 1, 1, none⟩ = _ := HR.out.cell 1 _ rfl
        have e2 : wG.cell? ⟨w.heap.size + 1, 2, none⟩ = _ := HR.out.cell 2 _ rfl
        have f0 := hbF.cell 0 _ rfl; have f1 := hbF.cell 1 _ rfl; have f2 := hbF.cell 2 _ rfl
        have HCF := Lib.hid (show Chg [] w wF from HCW.out.trans hcF (fun x hx => .inr (by simp at hx; omega)))
        clear hcF hbF
        refine wp_region_T [] rfl (by kernel_rfl) rfl ?_
        rw [← hwD]
        clear hwD
        have hS : Chg [] wG wG := Chg.refl _ _
        have hlu : (Instr.lookup 34 vm (str m) false).run Tryz.prog wG = .ok (.slice (some ⟨bb, off, none⟩) l.length uc) wG := HLK.out wG HC0.out
        repeat
          (with_reducible show wpX _ _ _ _ _ _ _ _
           first
             | refine wpX_nil ?_
             | refine wpX_skip rfl ?_
             | refine wpX_mv rfl rfl (by kernel_rfl) (fun _ _ => ?_)
             | refine wpX_ldC rfl rfl rfl (by first | exact Z1.out | exact Z2.out | exact Z3.out | exact Z4.out) (by assumption) (fun _ _ => ?_)
             | refine wpX_ef' rfl rfl rfl (fun _ _ => ?_)
           go_wp2_with fail)
        refine And.intro hS ?_
        repeat
          (with_reducible show wpX _ _ _ _ _ _ _ _
           first
             | refine wpX_nil ?_
             | refine wpX_skip rfl ?_
             | refine wpX_mv rfl rfl (by kernel_rfl) (fun _ _ => ?_)
             | refine wpX_ldC rfl rfl rfl (by first | exact Z1.out | exact Z2.out | exact Z3.out | exact Z4.out) (by assumption) (fun _ _ => ?_)
             | refine wpX_ef' rfl rfl rfl (fun _ _ => ?_)
           go_wp2_with fail)
        refine stepX_ef rfl rfl (fun _ _ => ?_)
        change Oper.wp _ (Oper.mk ..) ..
        go_wp2_with fail
        refine bodyPost_ret (v := .agg #[str s.name, .int .i64 s.len, .int .i64 s.args]) (by simp [results, Tryz.results70, go_sem, f0, f1, f2]) rfl ?_
        rw [HFD.out]
        exact ⟨HCF.out, rfl⟩
end Go.Proofs.YtoeblajmelbbmaaGreatDoor
