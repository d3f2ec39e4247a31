/- CheckTurns. -/
import Derived.Test.YtoeblajmelbbmaaGreatDoorCheckW12
namespace Go.Mq.Check
open Go Go.RowKit Go.Mq Go.Mq.Tree Go.Mq.Sym
section
variable {w w' : World} {F : Nat → Prop}
theorem prat_isP {x : Proc} {r : List Value} (h : PrAt w F x r) : IsP r := by
  obtain ⟨_, _, _, rfl, ⟨a1, k1, rfl, _⟩, ⟨a2, k2, rfl, _⟩, ⟨a3, k3, _, rfl, _⟩⟩ := h
  exact ⟨_, _, _, _, _, _, _, _, _, _, _, _, rfl⟩
/-- Which procedure lies in which row. -/
def PrRows (w : World) (F : Nat → Prop) (l : List Proc) (rs : List (List Value)) : Prop := rs.length = l.length ∧ ∀ (k : Nat) (x : Proc) (r : List Value), l[k]? = some x → rs[k]? = some r → PrAt w F x r
theorem prs_rows : ∀ {l : List Proc} {cs : List Value}, PrsAt w F l cs → ∃ rs, cs = rs.flatten ∧ PrRows w F l rs
  | [], _, h => ⟨[], h, rfl, fun k x r hk => by simp at hk⟩
  | y :: l, _, h => by
    obtain ⟨c1, c2, rfl, h1, h2⟩ := h
    obtain ⟨rs, rfl, h3, h4⟩ := prs_rows h2
    refine ⟨c1 :: rs, rfl, by simp [h3], fun k x r hk hr => ?_⟩
    cases k with
    | zero => simp at hk hr; subst hk; subst hr; exact h1
    | succ k => exact h4 k x r (by simpa using hk) (by simpa using hr)
theorem prs_of_rows : ∀ {l : List Proc} {rs : List (List Value)}, PrRows w F l rs → PrsAt w F l rs.flatten
  | [], [], _ => rfl
  | [], _ :: _, h => by have := h.1; simp at this
  | _ :: _, [], h => by have := h.1; simp at this
  | y :: l, c1 :: rs, h => ⟨c1, rs.flatten, rfl, h.2 0 y c1 rfl rfl, prs_of_rows ⟨by simpa using h.1, fun k x r hk hr => h.2 (k + 1) x r (by simpa using hk) (by simpa using hr)⟩⟩
theorem PrRows.kept {S : List Nat} {l : List Proc} {rs : List (List Value)} (h : PrRows w F l rs) (hc : Chg S w w') (hS : ∀ x ∈ S, ¬ F x) : PrRows w' F l rs := ⟨h.1, fun k x r hk hr => (h.2 k x r hk hr).kept hc hS⟩
theorem PrRows.mono {G : Nat → Prop} (hF : ∀ x, F x → G x) {l : List Proc} {rs : List (List Value)} (h : PrRows w F l rs) : PrRows w G l rs := ⟨h.1, fun k x r hk hr => (h.2 k x r hk hr).mono hF⟩
theorem PrRows.turn {l : List Proc} {rs : List (List Value)} (h : PrRows w F l rs) : PrRows w F l.reverse rs.reverse := by
  refine ⟨by simp [h.1], fun k x r hk hr => ?_⟩
  have hkl : k < l.length := by have := (List.getElem?_eq_some_iff.1 hk).1; simpa using this
  rw [List.getElem?_reverse hkl] at hk
  rw [List.getElem?_reverse (by rw [h.1]; exact hkl), h.1] at hr
  exact h.2 _ x r hk hr
theorem PrRows.isP {l : List Proc} {rs : List (List Value)} (h : PrRows w F l rs) : ∀ r ∈ rs, IsP r := fun r hr => by
  obtain ⟨k, hk⟩ := List.getElem?_of_mem hr
  have hkl := (List.getElem?_eq_some_iff.1 hk).1
  rw [h.1] at hkl
  exact prat_isP (h.2 k _ r (List.getElem?_eq_getElem hkl) hk)
theorem globs_flat (l : List Glob) : l.flatMap Glob.cells = (l.map Glob.cells).flatten := rfl
theorem globs_isG (l : List Glob) : ∀ r ∈ l.map Glob.cells, IsG r := fun r hr => by
  obtain ⟨g, _, rfl⟩ := List.mem_map.1 hr
  exact ⟨_, _, _, _, rfl⟩
end
/-- All but for its name: turned. -/
def turned (m : Mod) : Mod := ⟨m.name, m.imports, m.vars.reverse, m.procs.reverse, m.body⟩
end Go.Mq.Check
namespace Go.Proofs.YtoeblajmelbbmaaGreatDoor
open Go Go.RowKit Go.Mq Go.Mq.Tree Go.Mq.Sym Go.Mq.Check
set_option maxRecDepth 100000
set_option maxHeartbeats 4000000
theorem turng_any (k : Nat) (hl : k ≤ 1000) (rs : List (List Value)) (hlen : rs.length = k) (hs : ∀ r ∈ rs, IsG r) (ra : Option Addr) (rc : Nat) (w : World) (h : w.ownsRow 0 42 4 (.slice ra k rc) k rs.flatten) :
    Calls Tryz.prog 12 #[.slice ra k rc] w (fun e w' => e = .returned (.tuple #[]) ∧ k ≤ rc ∧ Row w' (fun x => x ∈ blk (.slice ra k rc)) ra rs.reverse.flatten ∧ Chg (blk (.slice ra k rc)) w w') := by
  subst hlen
  have hd : ∀ r ∈ rs, r.length = 4 := fun r hr => by obtain ⟨_, _, _, _, rfl⟩ := hs r hr; rfl
  rcases rows_of_owns h hd with ⟨hv, hrs⟩ | ⟨g, c, hv, hc, hrb⟩
  · subst hrs
    simp only [List.length_nil, Value.slice.injEq, true_and] at hv
    obtain ⟨rfl, rfl⟩ := hv
    refine (revg_nil w).mono ?_
    rintro _ _ ⟨rfl, rfl⟩
    exact ⟨rfl, Nat.le_refl _, Row.nil _ _ _, Chg.refl _ _⟩
  · simp only [Value.slice.injEq, true_and] at hv
    obtain ⟨rfl, rfl⟩ := hv
    refine (revg_any rs hl hs g _ hc w hrb).mono ?_
    rintro _ w' ⟨rfl, hrb', hch⟩
    exact ⟨rfl, hc, hrb'.row (by omega) (fun r hr => hd r (List.mem_reverse.1 hr)) (by simp [blk]), hch⟩
theorem turnp_any (k : Nat) (hl : k ≤ 1000) (rs : List (List Value)) (hlen : rs.length = k) (hs : ∀ r ∈ rs, IsP r) (ra : Option Addr) (rc : Nat) (w : World) (h : w.ownsRow 0 39 6 (.slice ra k rc) k rs.flatten) :
    Calls Tryz.prog 11 #[.slice ra k rc] w (fun e w' => e = .returned (.tuple #[]) ∧ k ≤ rc ∧ Row w' (fun x => x ∈ blk (.slice ra k rc)) ra rs.reverse.flatten ∧ Chg (blk (.slice ra k rc)) w w') := by
  subst hlen
  have hd : ∀ r ∈ rs, r.length = 6 := fun r hr => by obtain ⟨_, _, _, _, _, _, _, _, _, _, _, _, rfl⟩ := hs r hr; rfl
  rcases rows_of_owns h hd with ⟨hv, hrs⟩ | ⟨g, c, hv, hc, hrb⟩
  · subst hrs
    simp only [List.length_nil, Value.slice.injEq, true_and] at hv
    obtain ⟨rfl, rfl⟩ := hv
    refine (revp_nil w).mono ?_
    rintro _ _ ⟨rfl, rfl⟩
    exact ⟨rfl, Nat.le_refl _, Row.nil _ _ _, Chg.refl _ _⟩
  · simp only [Value.slice.injEq, true_and] at hv
    obtain ⟨rfl, rfl⟩ := hv
    refine (revp_any rs hl hs g _ hc w hrb).mono ?_
    rintro _ w' ⟨rfl, hrb', hch⟩
    exact ⟨rfl, hc, hrb'.row (by omega) (fun r hr => hd r (List.mem_reverse.1 hr)) (by simp [blk]), hch⟩
theorem turns_any (s name : List UInt8) (others : List (List UInt8)) (hs63 : s.length ≤ 9223372036854775807) (hm63 : name.length ≤ 9223372036854775807) (hn63 : others.length ≤ 9223372036854775807) (hz : ∀ n ∈ others, n.length ≤ 9223372036854775807) (F : Nat → Prop) (a : Option Addr) (c : Nat) (w : World) (B : Nat) (hL : Laid w B) (hg : ErrLaid w) (hF : ∀ x, F x → x < w.heap.size) (h : NamesAt w F others (.slice a others.length c)) :
    Calls Tryz.prog 3 #[str s, .slice a others.length c, str name] w (Holds w) := by
  by_cases h1 : 1000 < s.length
  · go_enter Tryz.func3, Tryz.ntmps3
    go_wp2_with fail
    go_ret
    exact ⟨rfl, Chg.refl _ _⟩
  have HSH := Lib.hid (short_any others hn63 hz F a c w h)
  have HL := Lib.hid hL; have HG := Lib.hid hg; have HFB := Lib.hid hF; have HN := Lib.hid h
  clear hL hg hF h hz
  go_enter Tryz.func3, Tryz.ntmps3
  go_wp2_with fail
  refine HSH.out.mono ?_; rintro _ w1 ⟨q, rfl, hq, hc1⟩
  have HQ := Lib.hid hq; have HC1 := Lib.hid hc1
  clear hq hc1 hn63
  cases q with
  | false =>
    go_wp2_with fail
    go_ret
    exact ⟨rfl, HC1.out⟩
  | true =>
    obtain ⟨hf5, hf9⟩ := HQ.out rfl
    have HF9 := Lib.hid hf9
    clear hf9
    by_cases h2 : 40 < name.length
    · go_wp2_with fail
      go_ret
      exact ⟨rfl, HC1.out⟩
    have HCK := Lib.hid (checked_any w1 B (HL.out.kept HC1.out (by simp)) (HG.out.kept HC1.out (by simp)))
    go_wp2_with fail
    refine HCK.out.mono ?_; rintro _ w2 ⟨rfl, hc2⟩
    have HC2 := Lib.hid (HC1.out.then hc2)
    clear hc2
    have HPA := Lib.hid (parse_any s (by omega) w2 B (HL.out.kept HC2.out (by simp)))
    cases hp : parse s with
    | bad en q =>
      rw [hp] at HPA
      clear hp
      go_wp2_with fail
      refine HPA.out.mono ?_; rintro _ w3 ⟨hc3, b3, rfl, _, _⟩
      have hz := Blk.new w3 #[str [], nils, nils, nils, nils] 29
      obtain ⟨wA, hwA⟩ : ∃ w', w3.alloc (.cells #[str [], nils, nils, nils, nils] 29) = w' := ⟨_, rfl⟩
      rw [hwA] at hz
      have hcA : Chg [] w3 wA := by rw [← hwA]; exact (Chg.refl _ _).alloc _
      obtain ⟨wF, hwF, hcF, hbF⟩ := set5 (str []) nils nils nils nils hz
      have HCF := Lib.hid (HC2.out.then (hc3.then (hcA.trans hcF (fun x hx => .inr (by simp at hx; omega)))))
      have z0 := hz.cell 0 _ rfl; have z1 := hz.cell 1 _ rfl; have z2 := hz.cell 2 _ rfl; have z3 := hz.cell 3 _ rfl; have z4 := hz.cell 4 _ rfl
      have y0 := hz.frozen 0; have y1 := hz.frozen 1; have y2 := hz.frozen 2; have y3 := hz.frozen 3; have y4 := hz.frozen 4
      clear hc3 hz hcA hcF hbF
      go_wp2_with fail
      go_ret
      exact ⟨rfl, HCF.out⟩
    | ok m =>
      rw [hp] at HPA
      have HFM := Lib.hid (few_mod (by omega) hp)
      clear hp
      go_wp2_with fail
      refine HPA.out.mono ?_; rintro _ w3 ⟨hc3, v, rfl, hmod⟩
      obtain ⟨vi, vv, vp, vb, rfl, ⟨ai, ci, rfl, hi1, hi2⟩, ⟨av, cv, rfl, hv1, hv2⟩, ⟨ap, cp, pcs, rfl, hp1, hp2, hp3⟩, ⟨ab, cb, bcs, rfl, hb1, hb2, hb3⟩⟩ := hmod
      have HMO := Lib.hid (show ModAt w3 (New w2 w3) m (.agg #[str m.name, .slice ai m.imports.length ci, .slice av m.vars.length cv, .slice ap m.procs.length cp, .slice ab m.body.len cb]) from ⟨_, _, _, _, rfl, ⟨ai, ci, rfl, hi1, hi2⟩, ⟨av, cv, rfl, hv1, hv2⟩, ⟨ap, cp, pcs, rfl, hp1, hp2, hp3⟩, ⟨ab, cb, bcs, rfl, hb1, hb2, hb3⟩⟩)
      have HIM := Lib.hid hi2; have HVA := Lib.hid hv2; have HPO := Lib.hid hp2; have HPP := Lib.hid hp3
      have HBO := Lib.hid (show SlAt w3 (New w2 w3) m.body (.slice ab m.body.len cb) from ⟨ab, cb, bcs, rfl, hb1, hb2, hb3⟩)
      have hz := Blk.new w3 #[str [], nils, nils, nils, nils] 29
      obtain ⟨wA, hwA⟩ : ∃ w', w3.alloc (.cells #[str [], nils, nils, nils, nils] 29) = w' := ⟨_, rfl⟩
      rw [hwA] at hz
      have hcA : Chg [] w3 wA := by rw [← hwA]; exact (Chg.refl _ _).alloc _
      obtain ⟨wF, hwF, hcF, hbF⟩ := set5 (str m.name) (.slice ai m.imports.length ci) (.slice av m.vars.length cv) (.slice ap m.procs.length cp) (.slice ab m.body.len cb) hz
      have hc3F : Chg [] w3 wF := hcA.trans hcF (fun x hx => .inr (by simp at hx; omega))
      have z0 := hz.cell 0 _ rfl; have z1 := hz.cell 1 _ rfl; have z2 := hz.cell 2 _ rfl; have z3 := hz.cell 3 _ rfl; have z4 := hz.cell 4 _ rfl
      have y0 := hz.frozen 0; have y1 := hz.frozen 1; have y2 := hz.frozen 2; have y3 := hz.frozen 3; have y4 := hz.frozen 4
      have HC3 := Lib.hid (HC2.out.then hc3); have H3F := Lib.hid hc3F; have HBM := Lib.hid hbF
      have HL3F := Lib.hid (show w3.heap.size < wF.heap.size from hbF.lt)
      have HSY := Lib.hid (syms_any others hf5 HF9.out F a c wF B (HL.out.kept (HC3.out.then hc3F) (by simp)) (fun x hx => by have := HFB.out x hx; have := (HC3.out.then hc3F).size; omega) (HN.out.kept (HC3.out.then hc3F) (by simp)))
      clear hc3 hz hcA hcF hbF hc3F hi2 hv2 hp2 hp3 hb2 hb3 hb1
      go_wp2_with fail
      clear hwA hwF z0 z1 z2 z3 z4 y0 y1 y2 y3 y4
      refine HSY.out.mono ?_; rintro _ w4 ⟨rfl, hin, hc4⟩
      have HS4 := Lib.hid hin; have H4 := Lib.hid (H3F.out.then hc4); have HF4 := Lib.hid hc4
      have hs4 := hc4.size
      have hl3 := HL3F.out
      obtain ⟨sn, hsn⟩ : ∃ f, f = symsF others := ⟨_, rfl⟩
      rw [← hsn] at HS4
      have HB4 := Lib.hid (HBM.out.kept hc4 (by simp))
      have HCA := Lib.hid (ccheck_any m HFM.out sn (fun x => x < w4.heap.size) _ _ w4 (fun _ h => h) ((HMO.out.kept H4.out (by simp)).mono fun x hx => by have := hx.2; have := H4.out.size; omega) (HS4.out.at_ (fun x hx => hx.2) (by show wF.heap.size < w4.heap.size; obtain ⟨es, h, _⟩ := HS4.out; exact h.lt)))
      have x0 := HB4.out.cell 0 _ rfl; have x1 := HB4.out.cell 1 _ rfl; have x2 := HB4.out.cell 2 _ rfl; have x3 := HB4.out.cell 3 _ rfl; have x4 := HB4.out.cell 4 _ rfl
      clear hin hc4 hsn
      cases hck : check m sn with
      | plain e =>
        rw [hck] at HCA
        clear hck
        go_wp2_with fail
        refine HCA.out.mono ?_; rintro _ w5 ⟨hc5, rfl⟩
        have HC5 := Lib.hid ((HC3.out.then H4.out).then hc5)
        clear hc5
        go_wp2_with fail
        go_ret
        exact ⟨rfl, HC5.out⟩
      | at_ e p =>
        rw [hck] at HCA
        clear hck
        go_wp2_with fail
        refine HCA.out.mono ?_; rintro _ w5 ⟨hc5, b5, rfl, _, _⟩
        have HC5 := Lib.hid ((HC3.out.then H4.out).then hc5)
        clear hc5
        go_wp2_with fail
        go_ret
        exact ⟨rfl, HC5.out⟩
      | fine =>
        rw [hck] at HCA
        have HFI := Lib.hid hck
        clear hck
        go_wp2_with fail
        clear x0 x1 x2 x3 x4
        refine HCA.out.mono ?_; rintro _ w5 ⟨hc5, rfl⟩
        have HS5 := Lib.hid (show SeenIn w5 wF.heap.size (fun x => wF.heap.size < x ∧ x < w4.heap.size) sn from HS4.out.kept hc5 (by simp) (by simp))
        have H5 := Lib.hid (H4.out.then hc5)
        have HB5 := Lib.hid (HB4.out.kept hc5 (by simp))
        have hs5 := hc5.size
        clear hc5
        have hz := Blk.new w5 #[str [], nils, nils, nils, nils] 29
        obtain ⟨wA, hwA⟩ : ∃ w', w5.alloc (.cells #[str [], nils, nils, nils, nils] 29) = w' := ⟨_, rfl⟩
        rw [hwA] at hz
        have hcA : Chg [] w5 wA := by rw [← hwA]; exact (Chg.refl _ _).alloc _
        obtain ⟨wG, hwG, hcG, hbG⟩ := set5 (str m.name) (.slice ai m.imports.length ci) (.slice av m.vars.length cv) (.slice ap m.procs.length cp) (.slice ab m.body.len cb) hz
        have hc5G : Chg [] w5 wG := hcA.trans hcG (fun x hx => .inr (by simp at hx; omega))
        have z0 := hz.cell 0 _ rfl; have z1 := hz.cell 1 _ rfl; have z2 := hz.cell 2 _ rfl; have z3 := hz.cell 3 _ rfl; have z4 := hz.cell 4 _ rfl
        have y0 := hz.frozen 0; have y1 := hz.frozen 1; have y2 := hz.frozen 2; have y3 := hz.frozen 3; have y4 := hz.frozen 4
        have x0 := HB5.out.cell 0 _ rfl; have x1 := HB5.out.cell 1 _ rfl; have x2 := HB5.out.cell 2 _ rfl; have x3 := HB5.out.cell 3 _ rfl; have x4 := HB5.out.cell 4 _ rfl
        have HBN := Lib.hid hbG; have H5G := Lib.hid hc5G
        clear hz hcA hcG hbG hc5G
        go_wp2_with fail
        clear hwA hwG z0 z1 z2 z3 z4 y0 y1 y2 y3 y4 x0 x1 x2 x3 x4
        obtain ⟨wD, hwD⟩ : ∃ x, x = wG.drew := ⟨_, rfl⟩
        have h5D : Chg [] w5 wD := by rw [hwD]; exact H5G.out.drew
        have hGD : Chg [] wG wD := by rw [hwD]; exact (Chg.refl [] wG).drew
        have HMD := Lib.hid (HB5.out.kept h5D (by simp)); have HND := Lib.hid (HBN.out.kept hGD (by simp)); have H5D := Lib.hid h5D
        have m2 := HMD.out.cell 2 _ rfl; have m3 := HMD.out.cell 3 _ rfl
        have hl5 : w3.heap.size < w5.heap.size := HB5.out.lt
        have hl5D : w5.heap.size < wD.heap.size := HND.out.lt
        have hne : w3.heap.size ∉ [w5.heap.size] := by simp; omega
        have ZM := Lib.hid (Zone.of (X := [w5.heap.size]) (w0 := wD) m2 hne)
        obtain ⟨rs, hpcs, hrows⟩ := prs_rows HPP.out
        have HRS := Lib.hid hrows
        have hrl := hrows.1
        have hmv := HFM.out.vars; have hmp := HFM.out.procs
        have HKP := Lib.hid (show Calls Tryz.prog 9 #[.slice ap m.procs.length cp] wD (fun e w' => ∃ v', e = .returned v' ∧ w'.ownsRow 0 39 6 v' m.procs.length rs.flatten ∧ From wD.heap.size v' ∧ Chg [] wD w') by
          have := clonep_any rs (by omega) hrows.isP (New w2 w3) ap cp wD (by rw [← hpcs]; exact HPO.out.kept (H5.out.then h5D) (by simp))
          rwa [hrl] at this)
        have HKV := Lib.hid (show ∀ w', Chg [] w3 w' → Calls Tryz.prog 10 #[.slice av m.vars.length cv] w' (fun e w'' => ∃ v', e = .returned v' ∧ w''.ownsRow 0 42 4 v' m.vars.length (m.vars.map Glob.cells).flatten ∧ From w'.heap.size v' ∧ Chg [] w' w'') from fun w' hc => by
          have := cloneg_any (m.vars.map Glob.cells) (by simp; omega) (globs_isG _) (New w2 w3) av cv w' (by rw [← globs_flat]; exact HVA.out.kept hc (by simp))
          rwa [List.length_map] at this)
        clear h5D hGD hrows hpcs
        refine wp_region_C [w5.heap.size] rfl (by kernel_rfl) ?_
        rw [← hwD]
        clear hwD
        have hS : Chg [w5.heap.size] wD wD := Chg.refl _ _
        repeat
          (with_reducible show wpX _ _ _ _ _ _ _ _
           first
             | refine wpX_nil ?_
             | refine wpX_skip rfl ?_
             | refine wpX_mv rfl rfl (by kernel_rfl) (fun _ _ => ?_)
             | refine wpX_ldC rfl rfl rfl (by exact ZM.out) (by assumption) (fun _ _ => ?_)
             | refine wpX_ef' rfl rfl rfl (fun _ _ => ?_)
           go_wp2_with fail)
        refine HKP.out.mono ?_; rintro _ w6 ⟨vp', rfl, hop, hfp, hc6⟩
        obtain ⟨pa, pc, rfl⟩ := slice_of_owns hop
        have hS : Chg [w5.heap.size] wD w6 := hc6.weak
        have HOP := Lib.hid hop; have HFP := Lib.hid hfp; have HC6 := Lib.hid hc6
        have hs6 := hc6.size
        clear m2 m3 hop hfp hc6
        have m2 := (HMD.out.kept HC6.out (by simp)).cell 2 _ rfl
        go_wp2_with fail
        refine And.intro hS ?_
        repeat
          (with_reducible show wpX _ _ _ _ _ _ _ _
           first
             | refine wpX_nil ?_
             | refine wpX_skip rfl ?_
             | refine wpX_mv rfl rfl (by kernel_rfl) (fun _ _ => ?_)
             | refine wpX_ldC rfl rfl rfl (by exact ZM.out) (by assumption) (fun _ _ => ?_)
             | refine wpX_ef' rfl rfl rfl (fun _ _ => ?_)
           go_wp2_with fail)
        refine (HKV.out w6 ((H5.out.then H5D.out).then HC6.out)).mono ?_; rintro _ w7 ⟨vv', rfl, hov, hfv, hc7⟩
        obtain ⟨ga, gc, rfl⟩ := slice_of_owns hov
        have hS : Chg [w5.heap.size] wD w7 := (HC6.out.then hc7).weak
        have HOV := Lib.hid hov; have HFV := Lib.hid hfv; have HC7 := Lib.hid (HC6.out.then hc7); have H67 := Lib.hid hc7
        have hs7 := hc7.size
        have hb7 := HND.out.kept (HC6.out.then hc7) (by simp)
        have n2 := hb7.cell 2 _ rfl; have n3 := hb7.cell 3 _ rfl; have f2 := hb7.frozen 2; have f3 := hb7.frozen 3
        obtain ⟨w8a, hw8a⟩ : ∃ x, w7.setCell ⟨w5.heap.size, 3, none⟩ (.slice pa m.procs.length pc) = x := ⟨_, rfl⟩
        have hb8a : Blk w8a w5.heap.size #[str m.name, .slice ai m.imports.length ci, .slice av m.vars.length cv, .slice pa m.procs.length pc, .slice ab m.body.len cb] 29 := by rw [← hw8a]; simpa using hb7.set 3 (.slice pa m.procs.length pc)
        have hc8a : Chg [w5.heap.size] w7 w8a := by rw [← hw8a]; exact Chg.set1 _ _ _ _
        have p2 := hb8a.cell 2 _ rfl; have q2 := hb8a.frozen 2
        obtain ⟨w8, hw8⟩ : ∃ x, w8a.setCell ⟨w5.heap.size, 2, none⟩ (.slice ga m.vars.length gc) = x := ⟨_, rfl⟩
        have hb8 : Blk w8 w5.heap.size #[str m.name, .slice ai m.imports.length ci, .slice ga m.vars.length gc, .slice pa m.procs.length pc, .slice ab m.body.len cb] 29 := by rw [← hw8]; simpa using hb8a.set 2 (.slice ga m.vars.length gc)
        have hc8 : Chg [w5.heap.size] w8a w8 := by rw [← hw8]; exact Chg.set1 _ _ _ _
        have hS8a : Chg [w5.heap.size] wD w8a := hS.then hc8a
        have hS8 : Chg [w5.heap.size] wD w8 := hS8a.then hc8
        have HB8 := Lib.hid hb8; have H78 := Lib.hid (hc8a.then hc8)
        have k3 := hb8.cell 3 _ rfl
        clear hov hfv hc7 hb7 hb8a hc8a hb8 hc8
        go_wp2_with fail
        refine And.intro hS ?_
        repeat
          (with_reducible show wpX _ _ _ _ _ _ _ _
           first
             | refine wpX_nil ?_
             | refine wpX_skip rfl ?_
             | refine wpX_mv rfl rfl (by kernel_rfl) (fun _ _ => ?_)
             | refine wpX_ldC rfl rfl rfl (by exact ZM.out) (by assumption) (fun _ _ => ?_)
             | refine wpX_ef' rfl rfl rfl (fun _ _ => ?_)
           go_wp2_with fail)
        refine And.intro hS8a ?_
        have hHTP : w8.ownsRow 0 39 6 (.slice pa m.procs.length pc) m.procs.length rs.flatten :=
          owns_kept (owns_kept HOP.out H67.out (by simp)) H78.out (fun g hg hm => by have := HFP.out g hg; simp at hm; omega)
        have HTP := Lib.hid (turnp_any m.procs.length hmp rs hrl HRS.out.isP pa pc w8 hHTP)
        clear hHTP
        repeat
          (with_reducible show wpX _ _ _ _ _ _ _ _
           first
             | refine wpX_nil ?_
             | refine wpX_skip rfl ?_
             | refine wpX_mv rfl rfl (by kernel_rfl) (fun _ _ => ?_)
             | refine wpX_ldC rfl rfl rfl (by exact ZM.out) (by assumption) (fun _ _ => ?_)
             | refine wpX_ef' rfl rfl rfl (fun _ _ => ?_)
           go_wp2_with fail)
        refine And.intro hS8 ?_
        repeat
          (with_reducible show wpX _ _ _ _ _ _ _ _
           first
             | refine wpX_nil ?_
             | refine wpX_skip rfl ?_
             | refine wpX_mv rfl rfl (by kernel_rfl) (fun _ _ => ?_)
             | refine wpX_ldC rfl rfl rfl (by exact ZM.out) (by assumption) (fun _ _ => ?_)
             | refine wpX_ef' rfl rfl rfl (fun _ _ => ?_)
           go_wp2_with fail)
        clear hS hS8a ZM m2 n2 n3 f2 f3 p2 q2 hne
        go_wp2_with fail
        clear hw8 hw8a
        refine HTP.out.mono ?_; rintro _ w9 ⟨rfl, hpl, hrp, hc9⟩
        have hpb : ∀ g ∈ blk (.slice pa m.procs.length pc), wD.heap.size ≤ g ∧ g < w6.heap.size := fun g hg => ⟨HFP.out g hg, owns_lt HOP.out g hg⟩
        have hgb : ∀ g ∈ blk (.slice ga m.vars.length gc), w6.heap.size ≤ g ∧ g < w7.heap.size := fun g hg => ⟨HFV.out g hg, owns_lt HOV.out g hg⟩
        have HPB := Lib.hid hpb; have HGB := Lib.hid hgb
        have hb9 := HB8.out.kept hc9 (fun hm => by have := hpb _ hm; omega)
        have hs8 := hS8.size
        have hs78 := H78.out.size
        have hs9 := hc9.size
        have HTV := Lib.hid (turng_any m.vars.length hmv (m.vars.map Glob.cells) (by simp) (globs_isG _) ga gc w9 (owns_kept (owns_kept HOV.out H78.out (fun g hg hm => by have := hgb g hg; simp at hm; omega)) hc9 (fun g hg hm => by have h1 := hgb g hg; have h2 := hpb g hm; omega)))
        have k2 := hb9.cell 2 _ rfl
        have HB9 := Lib.hid hb9; have HRP := Lib.hid hrp; have HC9 := Lib.hid hc9; have HPL := Lib.hid hpl
        have H59 := Lib.hid (show Chg [] w5 w9 from (H5D.out.trans hS8 (fun x hx => .inr (by simp at hx; omega))).trans hc9 (fun x hx => .inr (by have := hpb x hx; omega)))
        clear k3 hb9 hrp hc9 hS8 hpl hpb hgb
        go_wp2_with fail
        clear k2
        refine HTV.out.mono ?_; rintro _ w10 ⟨rfl, hgl, hrg, hc10⟩
        have hb10 := HB9.out.kept hc10 (fun hm => by have := HGB.out _ hm; omega)
        have hs10 := hc10.size
        have h510 : Chg [] w5 w10 := H59.out.trans hc10 (fun x hx => .inr (by have := HGB.out x hx; omega))
        have h310 := H5.out.then h510
        have hM10 : ModAt w10 (fun x => x < w10.heap.size) (turned m) (.agg #[str m.name, .slice ai m.imports.length ci, .slice ga m.vars.length gc, .slice pa m.procs.length pc, .slice ab m.body.len cb]) := by
          have hlt : ∀ x, New w2 w3 x → x < w10.heap.size := fun x hx => by have := hx.2; have := h310.size; omega
          refine ⟨_, _, _, _, rfl, ⟨ai, ci, rfl, hi1, (HIM.out.kept h310 (by simp)).mono hlt⟩, ⟨ga, gc, by simp [turned], by simpa [turned] using hgl, ?_⟩, ⟨pa, pc, rs.reverse.flatten, by simp [turned], by simpa [turned] using HPL.out, ?_, ?_⟩, (HBO.out.kept h310 (by simp)).mono hlt⟩
          · show Row w10 _ ga (m.vars.reverse.flatMap Glob.cells)
            rw [globs_flat, List.map_reverse]
            exact hrg.mono fun x hx => by have := HGB.out x hx; omega
          · exact (HRP.out.kept hc10 (fun x hx hn => by have h1 := HGB.out x hx; have h2 := HPB.out x hn; omega)).mono fun x hx => by have := HPB.out x hx; omega
          · exact prs_of_rows (((HRS.out.kept h310 (by simp)).mono hlt).turn)
        have hsn10 : SeenAt w10 (fun x => x < w10.heap.size) sn (.map (some wF.heap.size)) := (HS5.out.kept h510 (by simp) (by simp)).at_ (fun x hx => by have := hx.2; omega) (by show wF.heap.size < w10.heap.size; obtain ⟨es, h, _⟩ := HS5.out; have := h.lt; omega)
        have HCB := Lib.hid (ccheck_any (turned m) HFM.out.turn sn (fun x => x < w10.heap.size) _ _ w10 (fun _ h => h) hM10 hsn10)
        rw [show check (turned m) sn = .fine from check_turn HFI.out] at HCB
        have x0 := hb10.cell 0 _ rfl; have x1 := hb10.cell 1 _ rfl; have x2 := hb10.cell 2 _ rfl; have x3 := hb10.cell 3 _ rfl; have x4 := hb10.cell 4 _ rfl
        have H510 := Lib.hid h510
        clear hb10 hgl hrg hc10 h510 h310 hM10 hsn10
        go_wp2_with fail
        clear x0 x1 x2 x3 x4
        refine HCB.out.mono ?_; rintro _ w11 ⟨hc11, rfl⟩
        have h511 := H510.out.then hc11
        have hs11 := hc11.size
        have hi11 : SeenIn w11 wF.heap.size (fun x => wF.heap.size < x ∧ x < w4.heap.size) sn := HS5.out.kept h511 (by simp) (by simp)
        have hfl : wF.heap.size < w11.heap.size := by obtain ⟨es, h, _⟩ := hi11; exact h.lt
        have hsn11 : SeenAt w11 (fun x => x < w11.heap.size) sn (.map (some wF.heap.size)) := hi11.at_ (fun x hx => by have := hx.2; omega) hfl
        obtain ⟨u, _, hlk, _, _⟩ := look_seen hsn11 name
        have hlu := hlk w11 (Chg.refl _ _)
        have hb11 := HB5.out.kept h511 (by simp)
        have x0 := hb11.cell 0 _ rfl; have x1 := hb11.cell 1 _ rfl; have x2 := hb11.cell 2 _ rfl; have x3 := hb11.cell 3 _ rfl; have x4 := hb11.cell 4 _ rfl
        have hM11 : ModAt w11 (fun x => x < w11.heap.size) m (.agg #[str m.name, .slice ai m.imports.length ci, .slice av m.vars.length cv, .slice ap m.procs.length cp, .slice ab m.body.len cb]) :=
          (HMO.out.kept (H5.out.then h511) (by simp)).mono fun x hx => by have := hx.2; omega
        have HM11 := Lib.hid hM11; have H511 := Lib.hid h511; have HI11 := Lib.hid hi11; have HB11 := Lib.hid hb11
        have HW11 := Lib.hid ((HC3.out.then H5.out).then h511)
        cases hns : (sn name).isSome with
        | true =>
          rw [hns] at hlu
          have HCC := Lib.hid (ccheck_any m HFM.out sn (fun x => x < w11.heap.size) _ _ w11 (fun _ h => h) hM11 hsn11)
          rw [HFI.out] at HCC
          clear hlk hsn11 hM11 h511 hi11 hb11 hc11 hns
          go_wp2_with fail
          clear x0 x1 x2 x3 x4
          refine HCC.out.mono ?_; rintro _ w12 ⟨hc12, rfl⟩
          have HZ := Lib.hid (HW11.out.then hc12)
          clear hc12
          go_wp2_with fail
          go_ret
          exact ⟨rfl, HZ.out⟩
        | false =>
          rw [hns] at hlu
          obtain ⟨wS, hwS⟩ : ∃ x, w11.alloc (.cells #[.string ⟨#[120]⟩, .int .i64 0, .int .i64 2] 48) = x := ⟨_, rfl⟩
          have hbS := Blk.new w11 #[.string ⟨#[120]⟩, .int .i64 0, .int .i64 2] 48
          rw [hwS] at hbS
          have hcS : Chg [] w11 wS := by rw [← hwS]; exact (Chg.refl _ _).alloc _
          have hsS : wS.heap.size = w11.heap.size + 1 := by rw [← hwS]; simp
          have hsy : SymsAt wS (fun x => wF.heap.size < x) [⟨[120], 0, 2⟩] (.slice (some ⟨w11.heap.size, 0, none⟩) 1 1) := by
            refine ⟨_, _, rfl, Nat.le_refl _, ⟨fun _ => ⟨_, 0, rfl, fun i v hv => ?_⟩, fun _ p hp => ?_⟩, fun h => by cases h⟩
            · rw [Nat.zero_add]; exact hbS.cell i v (by simpa [Sy.cells] using hv)
            · cases hp; exact hfl
          obtain ⟨w12, hrun, hin12, hcx⟩ := seen_put ((hi11.kept hcS (by simp) (by simp)).mono (F := fun x => wF.heap.size < x) fun x hx => hx.1) (fun h => by omega) name [⟨[120], 0, 2⟩] _ (by simp) hsy
          have hs12 : wS.heap.size ≤ w12.heap.size := hcx.size
          have hc12 : Chg [wF.heap.size] w11 w12 := hcS.weak.then hcx
          obtain ⟨sn2, hsn2⟩ : ∃ f : List UInt8 → Option (List Sy), f = fun x => if x = name then some [⟨[120], 0, 2⟩] else sn x := ⟨_, rfl⟩
          rw [← hsn2] at hin12
          have hck2 : check m sn2 = .fine := check_more (fun n hn => by
            rw [hsn2]
            by_cases he : n = name
            · subst he; rw [hns] at hn; cases hn
            · simp only [if_neg he]) HFI.out
          have hfw : w3.heap.size ≤ wF.heap.size := by omega
          have HCC := Lib.hid (ccheck_any m HFM.out sn2 (fun x => x < w12.heap.size) _ _ w12 (fun _ h => h) ((HMO.out.kept ((H5.out.then h511).trans hc12 (fun x hx => .inr (by simp at hx; omega))) (by simp)).mono fun x hx => by have := hx.2; omega) ((seen_lt hin12).at_ (fun x hx => hx.2) (by omega)))
          rw [hck2] at HCC
          have hb12 := hb11.kept hc12 (by simp; omega)
          have t0 := hb12.cell 0 _ rfl; have t1 := hb12.cell 1 _ rfl; have t2 := hb12.cell 2 _ rfl; have t3 := hb12.cell 3 _ rfl; have t4 := hb12.cell 4 _ rfl
          have HZ12 := Lib.hid (show Chg [] w w12 from HW11.out.trans hc12 (fun x hx => .inr (by simp at hx; have := HC3.out.size; omega)))
          clear hlk hsn11 hM11 h511 hi11 hb11 hc11 hns x0 x1 x2 x3 x4 hbS hcS hsS hsy hin12 hcx hs12 hc12 hsn2 hck2 hb12
          go_wp2_with fail
          clear t0 t1 t2 t3 t4 hwS hrun
          refine HCC.out.mono ?_; rintro _ w13 ⟨hc13, rfl⟩
          have HZ := Lib.hid (HZ12.out.then hc13)
          clear hc13
          go_wp2_with fail
          go_ret
          exact ⟨rfl, HZ.out⟩
end Go.Proofs.YtoeblajmelbbmaaGreatDoor
