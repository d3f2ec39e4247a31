/- The fact on the order. -/
import Derived.Test.YtgnfhognbpifiaaGreatDoorPlanW7
namespace Go.Mq.Plan
open Go Go.RowKit Go.Mq Go.Mq.Tree
theorem plan_fact : (match parse [109, 111, 100, 117, 108, 101, 32, 97, 59, 32, 105, 109, 112, 111, 114, 116, 32, 98, 59, 32, 98, 101, 103, 105, 110, 32, 101, 110, 100, 46], parse [109, 111, 100, 117, 108, 101, 32, 98, 59, 32, 98, 101, 103, 105, 110, 32, 101, 110, 100, 46], parse [109, 111, 100, 117, 108, 101, 32, 98, 59, 32, 105, 109, 112, 111, 114, 116, 32, 97, 59, 32, 98, 101, 103, 105, 110, 32, 101, 110, 100, 46] with | .ok a, .ok b, .ok c => a.imports == [[98]] && b.imports == [] && c.imports == [[97]] | _, _, _ => false) = true := by
  decide +kernel
theorem plan_mods : ∃ a b c, parse [109, 111, 100, 117, 108, 101, 32, 97, 59, 32, 105, 109, 112, 111, 114, 116, 32, 98, 59, 32, 98, 101, 103, 105, 110, 32, 101, 110, 100, 46] = .ok a ∧ parse [109, 111, 100, 117, 108, 101, 32, 98, 59, 32, 98, 101, 103, 105, 110, 32, 101, 110, 100, 46] = .ok b ∧ parse [109, 111, 100, 117, 108, 101, 32, 98, 59, 32, 105, 109, 112, 111, 114, 116, 32, 97, 59, 32, 98, 101, 103, 105, 110, 32, 101, 110, 100, 46] = .ok c ∧ a.imports = [[98]] ∧ b.imports = [] ∧ c.imports = [[97]] := by
  have h := plan_fact
  split at h
  · rename_i a b c ha hb hc
    simp only [Bool.and_eq_true, beq_iff_eq] at h
    exact ⟨a, b, c, ha, hb, hc, h.1.1, h.1.2, h.2⟩
  · cases h
def mfOf (a b : Mod) : Nm → Option Mod := fun x => if x = [98] then some b else if x = [97] then some a else none
theorem mfOf_there (a b : Mod) : (fun i => (mfOf a b i).isSome) = fun i => decide (i = [98]) || decide (i = [97]) := by
  funext i
  unfold mfOf
  by_cases h1 : i = [98]
  · simp [h1]
  · by_cases h2 : i = [97]
    · simp [h2]
    · simp [h1, h2]
theorem mfOf_imp (a b : Mod) : impOf (mfOf a b) = fun i => if i = [98] then b.imports else if i = [97] then a.imports else [] := by
  funext i
  unfold impOf mfOf
  by_cases h1 : i = [98]
  · simp [h1]
  · by_cases h2 : i = [97]
    · simp [h2]
    · simp [h1, h2]
theorem order_ab {a b : Mod} (ha : a.imports = [[98]]) (hb : b.imports = []) : orderL [[97], [98]] (fun i => (mfOf a b i).isSome) (impOf (mfOf a b)) 2 [] = some [[98], [97]] := by
  rw [mfOf_there, mfOf_imp, ha, hb]
  decide +kernel
theorem order_ac {a c : Mod} (ha : a.imports = [[98]]) (hc : c.imports = [[97]]) : orderL [[97], [98]] (fun i => (mfOf a c i).isSome) (impOf (mfOf a c)) 2 [] = none := by
  rw [mfOf_there, mfOf_imp, ha, hc]
  decide +kernel
theorem perm_two {α : Type} [DecidableEq α] {x y : α} {ss : List α} (h : ss.Perm [x, y]) : ss = [x, y] ∨ ss = [y, x] := by
  match ss, h with
  | [], h => exact absurd h.length_eq (by simp)
  | [_], h => exact absurd h.length_eq (by simp)
  | _ :: _ :: _ :: _, h => exact absurd h.length_eq (by simp)
  | [p, q], h =>
    by_cases hp : p = x
    · subst hp
      exact .inl (by rw [List.singleton_perm_singleton.1 (List.Perm.cons_inv h)])
    · have hm : p ∈ [x, y] := h.mem_iff.1 (by simp)
      have hpy : p = y := by simpa [hp] using hm
      subst hpy
      exact .inr (by rw [List.singleton_perm_singleton.1 (List.Perm.cons_inv (h.trans (List.Perm.swap _ _ _)))])
theorem sort_ab : ([[97], [98]] : List Nm).mergeSort (fun x y => decide (x ≤ y)) = [[97], [98]] := by
  simp [List.mergeSort, List.MergeSort.Internal.splitInTwo, List.merge] <;> decide
theorem sort_ba : ([[98], [97]] : List Nm).mergeSort (fun x y => decide (x ≤ y)) = [[97], [98]] := by
  simp [List.mergeSort, List.MergeSort.Internal.splitInTwo, List.merge] <;> decide
theorem named_ab {va vb : Value} {names : List Nm} (h : Named (putM (putM [] [97] va) [98] vb) names) : names = [[97], [98]] := by
  obtain ⟨ss, h1, rfl⟩ := h.perm
  have he : (putM (putM [] [97] va) [98] vb).map (·.1) = [[97], [98]] := rfl
  rw [he] at h1
  rcases perm_two h1 with rfl | rfl
  · exact sort_ab
  · exact sort_ba
end Go.Mq.Plan
namespace Go.Proofs.YtgnfhognbpifiaaGreatDoor
open Go Go.RowKit Go.Mq Go.Mq.Tree Go.Mq.Plan
set_option maxRecDepth 100000
set_option maxHeartbeats 4000000
theorem equal_same (l : List Nm) (hl : l.length ≤ 1000) (F G : Nat → Prop) (v u : Value) (w : World) (h : NamesAt w F l v) (k : NamesAt w G l u) : Calls Tryz.prog 17 #[v, u] w (fun e w' => e = .returned (.bool true) ∧ Chg [] w w') := by
  obtain ⟨a, c, rfl, hac, hrow⟩ := h
  obtain ⟨a2, c2, rfl, hac2, hrow2⟩ := k
  have HR1 := Lib.hid hrow; have HR2 := Lib.hid hrow2
  clear hrow hrow2
  go_enter Tryz.func17, Tryz.ntmps17
  go_wp2_with fail
  go_loopw [5, 13] (fun _ i wr => ∃ k : Nat, i = .int .i64 k ∧ k ≤ l.length ∧ Chg [] w wr) (fun _ i _ => l.length - (intOf i).toNat)
  case atStart => exact ⟨0, rfl, Nat.zero_le _, Chg.refl _ _⟩
  case round =>
    obtain ⟨k, rfl, hk, hc⟩ := hrel
    have HC := Lib.hid hc
    by_cases hlt : k < l.length
    · obtain ⟨s, hs⟩ : ∃ s, l[k]? = some s := ⟨l[k], List.getElem?_eq_getElem hlt⟩
      obtain ⟨bb, off, rfl, d0⟩ := names_cell (HR1.out.kept hc (by simp)) hs
      obtain ⟨bb2, off2, rfl, e0⟩ := names_cell (HR2.out.kept hc (by simp)) hs
      clear hs hc
      go_wp2_with fail
      go_region
      all_goals (try go_wp2_with fail)
      exact ⟨⟨k + 1, by go_num, by omega, HC.out.drew⟩, by simp [intOf]; omega⟩
    · clear hc
      go_wp2_with fail
      go_ret
      exact ⟨rfl, HC.out⟩
theorem ordered_any (w : World) (B : Nat) (hL : Laid w B) (hg : ErrLaid w) : Calls Tryz.prog 6 #[] w (Holds w) := by
  have hmm := @run_makeMap Tryz.prog
  obtain ⟨ma, mb, mc, hpa, hpb, hpc, hia, hib, hic⟩ := plan_mods
  have HPA := Lib.hid hpa; have HPB := Lib.hid hpb; have HPC := Lib.hid hpc
  have HIA := Lib.hid hia; have HIB := Lib.hid hib; have HIC := Lib.hid hic
  have HL := Lib.hid hL; have HG := Lib.hid hg
  have hP := parse_any [109, 111, 100, 117, 108, 101, 32, 97, 59, 32, 105, 109, 112, 111, 114, 116, 32, 98, 59, 32, 98, 101, 103, 105, 110, 32, 101, 110, 100, 46] (by decide) w B hL
  rw [hpa] at hP
  have HP := Lib.hid hP
  clear hP hpa hpb hpc hia hib hic hL hg
  go_enter Tryz.func6, Tryz.ntmps6
  go_wp2_with fail
  
  refine HP.out.mono ?_; rintro _ w1 ⟨hc1, v, rfl, hmod⟩
  have hmod0 := hmod
  obtain ⟨vi, vv, vp, vb, rfl, ⟨aia, cia, rfl, _⟩, ⟨ava, cva, rfl, _⟩, ⟨apa, cpa, _, rfl, _⟩, ⟨aba, cba, _, rfl, _⟩⟩ := hmod
  have hz := Blk.new w1 #[str [], nils, nils, nils, nils] 37
  obtain ⟨wA1, hwwA1⟩ : ∃ w', w1.alloc (.cells #[str [], nils, nils, nils, nils] 37) = w' := ⟨_, rfl⟩
  rw [hwwA1] at hz
  have hcA : Chg [] w1 wA1 := by rw [← hwwA1]; exact (Chg.refl _ _).alloc _
  obtain ⟨wF1, hwwF1, hcF, hbF⟩ := set5 (str ma.name) (.slice aia ma.imports.length cia) (.slice ava ma.vars.length cva) (.slice apa ma.procs.length cpa) (.slice aba ma.body.len cba) hz
  have hcG : Chg [] w1 wF1 := hcA.trans hcF (fun x hx => .inr (by simp at hx; omega))
  have hcw : Chg [] w wF1 := hc1.then hcG
  have z0a := hz.cell 0 _ rfl; have z1a := hz.cell 1 _ rfl; have z2a := hz.cell 2 _ rfl; have z3a := hz.cell 3 _ rfl; have z4a := hz.cell 4 _ rfl
  have y0a := hz.frozen 0; have y1a := hz.frozen 1; have y2a := hz.frozen 2; have y3a := hz.frozen 3; have y4a := hz.frozen 4
  have HBa := Lib.hid hbF
  have HMa := Lib.hid (show ModAt wF1 (fun y => y < wF1.heap.size) ma (.agg #[str ma.name, .slice aia ma.imports.length cia, .slice ava ma.vars.length cva, .slice apa ma.procs.length cpa, .slice aba ma.body.len cba]) from (hmod0.kept hcG (by simp)).mono (fun y hy => by have := hy.2; have := hcG.size; omega))
  have HC1 := Lib.hid hcw
  have HW1 := Lib.hid hcw
  have hP := parse_any [109, 111, 100, 117, 108, 101, 32, 98, 59, 32, 98, 101, 103, 105, 110, 32, 101, 110, 100, 46] (by decide) wF1 B (HL.out.kept HC1.out (by simp))
  rw [HPB.out] at hP
  have HP := Lib.hid hP
  clear hP
  clear hc1 hz hcA hcF hbF hcw hcG hmod0
  go_wp2_with fail
  clear z0a y0a z1a y1a z2a y2a z3a y3a z4a y4a hwwF1 hwwA1
  refine HP.out.mono ?_; rintro _ w2 ⟨hc1, v, rfl, hmod⟩
  have hmod0 := hmod
  obtain ⟨vi, vv, vp, vb, rfl, ⟨aib, cib, rfl, _⟩, ⟨avb, cvb, rfl, _⟩, ⟨apb, cpb, _, rfl, _⟩, ⟨abb, cbb, _, rfl, _⟩⟩ := hmod
  have hz := Blk.new w2 #[str [], nils, nils, nils, nils] 37
  obtain ⟨wA2, hwwA2⟩ : ∃ w', w2.alloc (.cells #[str [], nils, nils, nils, nils] 37) = w' := ⟨_, rfl⟩
  rw [hwwA2] at hz
  have hcA : Chg [] w2 wA2 := by rw [← hwwA2]; exact (Chg.refl _ _).alloc _
  obtain ⟨wF2, hwwF2, hcF, hbF⟩ := set5 (str mb.name) (.slice aib mb.imports.length cib) (.slice avb mb.vars.length cvb) (.slice apb mb.procs.length cpb) (.slice abb mb.body.len cbb) hz
  have hcG : Chg [] w2 wF2 := hcA.trans hcF (fun x hx => .inr (by simp at hx; omega))
  have hcw : Chg [] wF1 wF2 := hc1.then hcG
  have z0b := hz.cell 0 _ rfl; have z1b := hz.cell 1 _ rfl; have z2b := hz.cell 2 _ rfl; have z3b := hz.cell 3 _ rfl; have z4b := hz.cell 4 _ rfl
  have y0b := hz.frozen 0; have y1b := hz.frozen 1; have y2b := hz.frozen 2; have y3b := hz.frozen 3; have y4b := hz.frozen 4
  have HBb := Lib.hid hbF
  have HMb := Lib.hid (show ModAt wF2 (fun y => y < wF2.heap.size) mb (.agg #[str mb.name, .slice aib mb.imports.length cib, .slice avb mb.vars.length cvb, .slice apb mb.procs.length cpb, .slice abb mb.body.len cbb]) from (hmod0.kept hcG (by simp)).mono (fun y hy => by have := hy.2; have := hcG.size; omega))
  have HC2 := Lib.hid (HC1.out.then hcw)
  have HW2 := Lib.hid hcw
  have hP := parse_any [109, 111, 100, 117, 108, 101, 32, 98, 59, 32, 105, 109, 112, 111, 114, 116, 32, 97, 59, 32, 98, 101, 103, 105, 110, 32, 101, 110, 100, 46] (by decide) wF2 B (HL.out.kept HC2.out (by simp))
  rw [HPC.out] at hP
  have HP := Lib.hid hP
  clear hP
  clear hc1 hz hcA hcF hbF hcw hcG hmod0
  go_wp2_with fail
  clear z0b y0b z1b y1b z2b y2b z3b y3b z4b y4b hwwF2 hwwA2
  refine HP.out.mono ?_; rintro _ w3 ⟨hc1, v, rfl, hmod⟩
  have hmod0 := hmod
  obtain ⟨vi, vv, vp, vb, rfl, ⟨aic, cic, rfl, _⟩, ⟨avc, cvc, rfl, _⟩, ⟨apc, cpc, _, rfl, _⟩, ⟨abc, cbc, _, rfl, _⟩⟩ := hmod
  have hz := Blk.new w3 #[str [], nils, nils, nils, nils] 37
  obtain ⟨wA3, hwwA3⟩ : ∃ w', w3.alloc (.cells #[str [], nils, nils, nils, nils] 37) = w' := ⟨_, rfl⟩
  rw [hwwA3] at hz
  have hcA : Chg [] w3 wA3 := by rw [← hwwA3]; exact (Chg.refl _ _).alloc _
  obtain ⟨wF3, hwwF3, hcF, hbF⟩ := set5 (str mc.name) (.slice aic mc.imports.length cic) (.slice avc mc.vars.length cvc) (.slice apc mc.procs.length cpc) (.slice abc mc.body.len cbc) hz
  have hcG : Chg [] w3 wF3 := hcA.trans hcF (fun x hx => .inr (by simp at hx; omega))
  have hcw : Chg [] wF2 wF3 := hc1.then hcG
  have z0c := hz.cell 0 _ rfl; have z1c := hz.cell 1 _ rfl; have z2c := hz.cell 2 _ rfl; have z3c := hz.cell 3 _ rfl; have z4c := hz.cell 4 _ rfl
  have y0c := hz.frozen 0; have y1c := hz.frozen 1; have y2c := hz.frozen 2; have y3c := hz.frozen 3; have y4c := hz.frozen 4
  have HBc := Lib.hid hbF
  have HMc := Lib.hid (show ModAt wF3 (fun y => y < wF3.heap.size) mc (.agg #[str mc.name, .slice aic mc.imports.length cic, .slice avc mc.vars.length cvc, .slice apc mc.procs.length cpc, .slice abc mc.body.len cbc]) from (hmod0.kept hcG (by simp)).mono (fun y hy => by have := hy.2; have := hcG.size; omega))
  have HC3 := Lib.hid (HC2.out.then hcw)
  have HW3 := Lib.hid hcw
  clear hc1 hz hcA hcF hbF hcw hcG hmod0
  have HTa1 := Lib.hid (HW2.out.then HW3.out); have HTb1 := Lib.hid HW3.out
  obtain ⟨wM1, hwM1⟩ : ∃ x, wF3.alloc (.map #[] 0) = x := ⟨_, rfl⟩
  have hcM : Chg [] wF3 wM1 := by rw [← hwM1]; exact (Chg.refl _ _).alloc _
  have hsM : wM1.heap.size = wF3.heap.size + 1 := by rw [← hwM1]; simp
  have hm0 : ModsAt wM1 wF3.heap.size (fun x => x < wF3.heap.size) (fun _ => none) [] := by rw [← hwM1]; exact ModsAt.made _ _
  have hmA : ModAt wM1 (fun x => x < wF3.heap.size) ma (.agg #[str ma.name, .slice aia ma.imports.length cia, .slice ava ma.vars.length cva, .slice apa ma.procs.length cpa, .slice aba ma.body.len cba]) := (HMa.out.kept (HTa1.out.then hcM) (by simp)).mono fun x hx => by have := HTa1.out.size; have : x < wF1.heap.size := hx; omega
  have p0 : wM1.cell? ⟨w1.heap.size, 0, none⟩ = _ := (HBa.out.kept (HTa1.out.then hcM) (by simp)).cell 0 _ rfl; have p1 : wM1.cell? ⟨w1.heap.size, 1, none⟩ = _ := (HBa.out.kept (HTa1.out.then hcM) (by simp)).cell 1 _ rfl; have p2 : wM1.cell? ⟨w1.heap.size, 2, none⟩ = _ := (HBa.out.kept (HTa1.out.then hcM) (by simp)).cell 2 _ rfl; have p3 : wM1.cell? ⟨w1.heap.size, 3, none⟩ = _ := (HBa.out.kept (HTa1.out.then hcM) (by simp)).cell 3 _ rfl; have p4 : wM1.cell? ⟨w1.heap.size, 4, none⟩ = _ := (HBa.out.kept (HTa1.out.then hcM) (by simp)).cell 4 _ rfl
  obtain ⟨wP1, hrP1, hmP, hcP⟩ := mods_put hm0 (fun h => by have : wF3.heap.size < wF3.heap.size := h; omega) [97] ma _ (by decide) (by rw [HIA.out]; decide) (by decide) hmA
  have hcP0 : Chg [] wF3 wP1 := hcM.trans hcP (fun x hx => .inr (by simp at hx; omega))
  have hmB : ModAt wP1 (fun x => x < wF3.heap.size) mb (.agg #[str mb.name, .slice aib mb.imports.length cib, .slice avb mb.vars.length cvb, .slice apb mb.procs.length cpb, .slice abb mb.body.len cbb]) := (HMb.out.kept (HTb1.out.then hcP0) (by simp)).mono fun x hx => by have := HTb1.out.size; have : x < wF2.heap.size := hx; omega
  have r0 : wP1.cell? ⟨w2.heap.size, 0, none⟩ = _ := (HBb.out.kept (HTb1.out.then hcP0) (by simp)).cell 0 _ rfl; have r1 : wP1.cell? ⟨w2.heap.size, 1, none⟩ = _ := (HBb.out.kept (HTb1.out.then hcP0) (by simp)).cell 1 _ rfl; have r2 : wP1.cell? ⟨w2.heap.size, 2, none⟩ = _ := (HBb.out.kept (HTb1.out.then hcP0) (by simp)).cell 2 _ rfl; have r3 : wP1.cell? ⟨w2.heap.size, 3, none⟩ = _ := (HBb.out.kept (HTb1.out.then hcP0) (by simp)).cell 3 _ rfl; have r4 : wP1.cell? ⟨w2.heap.size, 4, none⟩ = _ := (HBb.out.kept (HTb1.out.then hcP0) (by simp)).cell 4 _ rfl
  obtain ⟨wQ1, hrQ1, hmQ, hcQ⟩ := mods_put hmP (fun h => by have : wF3.heap.size < wF3.heap.size := h; omega) [98] mb _ (by decide) (by rw [HIB.out]; decide) (by simp [putM]) hmB
  have hcQ0 : Chg [] wF3 wQ1 := hcP0.trans hcQ (fun x hx => .inr (by simp at hx; omega))
  have hiP1 : (Instr.mapUpdate 25 (.map (some wF3.heap.size)) (.string ⟨#[97]⟩) (.agg #[str ma.name, .slice aia ma.imports.length cia, .slice ava ma.vars.length cva, .slice apa ma.procs.length cpa, .slice aba ma.body.len cba])).run Tryz.prog wM1 = .ok () wP1 := hrP1
  have hiQ1 : (Instr.mapUpdate 25 (.map (some wF3.heap.size)) (.string ⟨#[98]⟩) (.agg #[str mb.name, .slice aib mb.imports.length cib, .slice avb mb.vars.length cvb, .slice apb mb.procs.length cpb, .slice abb mb.body.len cbb])).run Tryz.prog wP1 = .ok () wQ1 := hrQ1
  have HOR := Lib.hid (order_any wF3.heap.size (fun x => x < wF3.heap.size) (mfOf ma mb) _ wQ1 (fun x hx => by have := hcQ0.size; omega) hmQ)
  have HCQ1 := Lib.hid hcQ0
  clear hcM hsM hm0 hmA hrP1 hmP hcP hcP0 hmB hrQ1 hmQ hcQ hcQ0
  go_wp2_with fail
  clear hwM1 hiP1 hiQ1 p0 p1 p2 p3 p4 r0 r1 r2 r3 r4 z0c z1c z2c z3c z4c y0c y1c y2c y3c y4c hwwF3 hwwA3
  refine HOR.out.mono ?_; rintro e w4 ⟨hc4, names, hnm, hres⟩
  have hnn := named_ab hnm
  subst hnn
  rw [show ([[97], [98]] : List Nm).length = 2 from rfl, order_ab HIA.out HIB.out] at hres
  simp only at hres
  obtain ⟨_, rfl, oa, oc, rfl, hac, hrow⟩ := hres
  have HROW := Lib.hid hrow
  have HCR := Lib.hid (HCQ1.out.then hc4)
  clear hc4 hnm hrow
  obtain ⟨wN, hwN⟩ : ∃ x, w4.alloc (.cells #[.string ⟨#[98]⟩, .string ⟨#[97]⟩] 9) = x := ⟨_, rfl⟩
  have hcN : Chg [] w4 wN := by rw [← hwN]; exact (Chg.refl _ _).alloc _
  have hbN := Blk.new w4 #[.string ⟨#[98]⟩, .string ⟨#[97]⟩] 9
  rw [hwN] at hbN
  have hnN : NamesAt wN (fun _ => True) [[98], [97]] (.slice (some ⟨w4.heap.size, 0, none⟩) 2 2) := by
    refine ⟨_, _, rfl, Nat.le_refl _, ⟨fun _ => ⟨_, 0, rfl, fun i v hv => ?_⟩, fun _ p hp => trivial⟩⟩
    rw [Nat.zero_add]; exact hbN.cell i v (by simpa using hv)
  have HEQ := Lib.hid (equal_same [[98], [97]] (by decide) _ _ (.slice oa 2 oc) _ wN ⟨_, _, rfl, hac, HROW.out.kept hcN (by simp)⟩ hnN)
  have HCN := Lib.hid (HCR.out.then hcN)
  clear hcN hbN hnN
  go_wp2_with fail
  clear hwN
  refine HEQ.out.mono ?_; rintro _ w5 ⟨rfl, hc5⟩
  have HT := Lib.hid (HCN.out.then hc5)
  have HTa2 := Lib.hid (HTa1.out.then HT.out); have HTc2 := Lib.hid HT.out
  clear hc5 hac
  obtain ⟨wM2, hwM2⟩ : ∃ x, w5.alloc (.map #[] 0) = x := ⟨_, rfl⟩
  have hcM : Chg [] w5 wM2 := by rw [← hwM2]; exact (Chg.refl _ _).alloc _
  have hsM : wM2.heap.size = w5.heap.size + 1 := by rw [← hwM2]; simp
  have hm0 : ModsAt wM2 w5.heap.size (fun x => x < w5.heap.size) (fun _ => none) [] := by rw [← hwM2]; exact ModsAt.made _ _
  have hmA : ModAt wM2 (fun x => x < w5.heap.size) ma (.agg #[str ma.name, .slice aia ma.imports.length cia, .slice ava ma.vars.length cva, .slice apa ma.procs.length cpa, .slice aba ma.body.len cba]) := (HMa.out.kept (HTa2.out.then hcM) (by simp)).mono fun x hx => by have := HTa2.out.size; have : x < wF1.heap.size := hx; omega
  have p0 : wM2.cell? ⟨w1.heap.size, 0, none⟩ = _ := (HBa.out.kept (HTa2.out.then hcM) (by simp)).cell 0 _ rfl; have p1 : wM2.cell? ⟨w1.heap.size, 1, none⟩ = _ := (HBa.out.kept (HTa2.out.then hcM) (by simp)).cell 1 _ rfl; have p2 : wM2.cell? ⟨w1.heap.size, 2, none⟩ = _ := (HBa.out.kept (HTa2.out.then hcM) (by simp)).cell 2 _ rfl; have p3 : wM2.cell? ⟨w1.heap.size, 3, none⟩ = _ := (HBa.out.kept (HTa2.out.then hcM) (by simp)).cell 3 _ rfl; have p4 : wM2.cell? ⟨w1.heap.size, 4, none⟩ = _ := (HBa.out.kept (HTa2.out.then hcM) (by simp)).cell 4 _ rfl
  obtain ⟨wP2, hrP2, hmP, hcP⟩ := mods_put hm0 (fun h => by have : w5.heap.size < w5.heap.size := h; omega) [97] ma _ (by decide) (by rw [HIA.out]; decide) (by decide) hmA
  have hcP0 : Chg [] w5 wP2 := hcM.trans hcP (fun x hx => .inr (by simp at hx; omega))
  have hmB : ModAt wP2 (fun x => x < w5.heap.size) mc (.agg #[str mc.name, .slice aic mc.imports.length cic, .slice avc mc.vars.length cvc, .slice apc mc.procs.length cpc, .slice abc mc.body.len cbc]) := (HMc.out.kept (HTc2.out.then hcP0) (by simp)).mono fun x hx => by have := HTc2.out.size; have : x < wF3.heap.size := hx; omega
  have r0 : wP2.cell? ⟨w3.heap.size, 0, none⟩ = _ := (HBc.out.kept (HTc2.out.then hcP0) (by simp)).cell 0 _ rfl; have r1 : wP2.cell? ⟨w3.heap.size, 1, none⟩ = _ := (HBc.out.kept (HTc2.out.then hcP0) (by simp)).cell 1 _ rfl; have r2 : wP2.cell? ⟨w3.heap.size, 2, none⟩ = _ := (HBc.out.kept (HTc2.out.then hcP0) (by simp)).cell 2 _ rfl; have r3 : wP2.cell? ⟨w3.heap.size, 3, none⟩ = _ := (HBc.out.kept (HTc2.out.then hcP0) (by simp)).cell 3 _ rfl; have r4 : wP2.cell? ⟨w3.heap.size, 4, none⟩ = _ := (HBc.out.kept (HTc2.out.then hcP0) (by simp)).cell 4 _ rfl
  obtain ⟨wQ2, hrQ2, hmQ, hcQ⟩ := mods_put hmP (fun h => by have : w5.heap.size < w5.heap.size := h; omega) [98] mc _ (by decide) (by rw [HIC.out]; decide) (by simp [putM]) hmB
  have hcQ0 : Chg [] w5 wQ2 := hcP0.trans hcQ (fun x hx => .inr (by simp at hx; omega))
  have hiP2 : (Instr.mapUpdate 25 (.map (some w5.heap.size)) (.string ⟨#[97]⟩) (.agg #[str ma.name, .slice aia ma.imports.length cia, .slice ava ma.vars.length cva, .slice apa ma.procs.length cpa, .slice aba ma.body.len cba])).run Tryz.prog wM2 = .ok () wP2 := hrP2
  have hiQ2 : (Instr.mapUpdate 25 (.map (some w5.heap.size)) (.string ⟨#[98]⟩) (.agg #[str mc.name, .slice aic mc.imports.length cic, .slice avc mc.vars.length cvc, .slice apc mc.procs.length cpc, .slice abc mc.body.len cbc])).run Tryz.prog wP2 = .ok () wQ2 := hrQ2
  have HOR := Lib.hid (order_any w5.heap.size (fun x => x < w5.heap.size) (mfOf ma mc) _ wQ2 (fun x hx => by have := hcQ0.size; omega) hmQ)
  have HCQ2 := Lib.hid hcQ0
  clear hcM hsM hm0 hmA hrP2 hmP hcP hcP0 hmB hrQ2 hmQ hcQ hcQ0
  go_wp2_with fail
  clear hwM2 hiP2 hiQ2 p0 p1 p2 p3 p4 r0 r1 r2 r3 r4
  refine HOR.out.mono ?_; rintro e w6 ⟨hc6, names, hnm, hres⟩
  have hnn := named_ab hnm
  subst hnn
  rw [show ([[97], [98]] : List Nm).length = 2 from rfl, order_ac HIA.out HIC.out] at hres
  simp only at hres
  subst hres
  have HC6 := Lib.hid (((HC3.out.then HT.out).then HCQ2.out).then hc6)
  have HTL := Lib.hid (tell_errno 11 w6 (HG.out.kept HC6.out (by simp)))
  clear hc6 hnm
  go_wp2_with fail
  refine HTL.out.mono ?_; rintro _ w7 ⟨rfl, hc7⟩
  go_wp2_with fail
  go_ret
  exact ⟨rfl, HC6.out.then hc7⟩
  theorem planRounds_any (l : List (List UInt8)) (hn63 : l.length ≤ 9223372036854775807) (hz : ∀ n ∈ l, n.length ≤ 9223372036854775807) (F : Nat → Prop) (a : Option Addr) (c : Nat) (w : World) (B : Nat) (hL : Laid w B) (hg : ErrLaid w) (hF : ∀ x, F x → x < w.heap.size) (h : NamesAt w F l (.slice a l.length c)) :
      Calls Tryz.prog 3 #[.slice a l.length c] w (Holds w) :=
    rounds_any (fun w B h1 h2 => ordered_any w B h1 h2) l hn63 hz F a c w B hL hg hF h
end Go.Proofs.YtgnfhognbpifiaaGreatDoor
