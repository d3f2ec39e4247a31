/- What SymNeeds runs. -/
import Derived.Test.YtoeblajmelbbmaaDoorSymW8
namespace Go.Mq.Sym
open Go Go.RowKit Go.Mq Go.Mq.Tree
theorem symsAt_owns {w : World} {v : Value} {l : List Sy} {F : Nat → Prop} (h : w.ownsRow 0 44 3 v l.length (l.flatMap Sy.cells)) (hF : ∀ g ∈ blk v, F g) : SymsAt w F l v := by
  rcases SyBlk.of_owns h with ⟨rfl, rfl⟩ | ⟨g, c, rfl, hlc, hb⟩
  · exact ⟨none, 0, rfl, Nat.le_refl _, Row.nil _ _ _, fun _ => rfl⟩
  · exact ⟨_, c, rfl, hlc, hb.row (hF g (by simp [blk])), fun h => by cases h⟩
theorem need_cons {x : Sy} {l : List Sy} {n : List UInt8} (h : x.name ≠ n) : needT (x :: l) n = needT l n := by
  rw [needT, needT, findS, List.findIdx?_cons]
  have hb : (x.name == n) = false := by simpa using h
  simp only [hb]
  show (match (findS l n).map (· + 1) with | none => _ | some k => _) = _
  cases findS l n with
  | none => rfl
  | some k => rfl
theorem need_snoc {x : Sy} {l : List Sy} {n : List UInt8} (h : x.name ≠ n) : needT (l ++ [x]) n = needT l n := by
  have hb : (x.name == n) = false := by simpa using h
  cases hq : findS l n with
  | some k =>
    have hk := findS_lt hq
    have h2 : findS (l ++ [x]) n = some k := by
      rw [findS, List.findIdx?_append]
      rw [findS] at hq
      rw [hq]; rfl
    rw [needT, needT, hq, h2]
    show lineT ((l ++ [x]).getD k Sy.none) = lineT (l.getD k Sy.none)
    rw [List.getD_eq_getElem?_getD, List.getD_eq_getElem?_getD, List.getElem?_append_left hk]
  | none =>
    have h2 : findS (l ++ [x]) n = none := by
      rw [findS, List.findIdx?_append]
      rw [findS] at hq
      rw [hq]
      simp [List.findIdx?_cons, hb]
    rw [needT, needT, hq, h2]
theorem needs_cons {x : Sy} {l : List Sy} {names : List (List UInt8)} (h : x.name ∉ names) : needsT (x :: l) names = needsT l names := by
  induction names with
  | nil => rfl
  | cons n r ih =>
    simp only [List.mem_cons, not_or] at h
    simp only [needsT, List.flatMap_cons] at ih ⊢
    rw [need_cons h.1, ih h.2]
theorem needs_snoc {x : Sy} {l : List Sy} {names : List (List UInt8)} (h : x.name ∉ names) : needsT (l ++ [x]) names = needsT l names := by
  induction names with
  | nil => rfl
  | cons n r ih =>
    simp only [List.mem_cons, not_or] at h
    simp only [needsT, List.flatMap_cons] at ih ⊢
    rw [need_snoc h.1, ih h.2]
end Go.Mq.Sym
namespace Go.Proofs.YtoeblajmelbbmaaDoor
open Go Go.RowKit Go.Mq Go.Mq.Tree Go.Mq.Sym
set_option maxRecDepth 100000
set_option maxHeartbeats 4000000
theorem needsLaw_any (s more : List UInt8) (names : List (List UInt8)) (hs63 : s.length ≤ 9223372036854775807) (hm63 : more.length ≤ 9223372036854775807) (hn63 : names.length ≤ 9223372036854775807) (hz : ∀ n ∈ names, n.length ≤ 9223372036854775807) (F : Nat → Prop) (a : Option Addr) (c : Nat) (w : World) (B : Nat) (hL : Laid w B) (hnm : NamesAt w F names (.slice a names.length c)) :
    Calls Tryd.prog 4 #[str s, str more, .slice a names.length c] w (Holds w) := by
  by_cases h1 : 900 < s.length
  · go_enter Tryd.func4, Tryd.ntmps4
    go_wp2_with fail
    go_ret
    exact ⟨rfl, Chg.refl _ _⟩
  by_cases h2 : 40 < more.length
  · go_enter Tryd.func4, Tryd.ntmps4
    go_wp2_with fail
    go_ret
    exact ⟨rfl, Chg.refl _ _⟩
  by_cases h3 : 10 < names.length
  · go_enter Tryd.func4, Tryd.ntmps4
    go_wp2_with fail
    go_ret
    exact ⟨rfl, Chg.refl _ _⟩
  have HCF := Lib.hid (containsf_any names (by omega) hz F _ w hnm)
  have HNM := Lib.hid hnm; have HL := Lib.hid hL
  clear hz hnm hL
  go_enter Tryd.func4, Tryd.ntmps4
  go_wp2_with fail
  refine HCF.out.mono ?_; rintro _ wc ⟨q, rfl, hq, hcc⟩
  have HQ := Lib.hid hq; have HCC := Lib.hid hcc
  clear hq hcc
  cases q with
  | true =>
    go_wp2_with fail
    go_ret
    exact ⟨rfl, HCC.out⟩
  | false =>
    have hsm : ∀ n ∈ names, n.length ≤ 40 := by
      rcases HQ.out with h | h
      · cases h
      · exact h
    have HSM := Lib.hid hsm
    have HF := Lib.hid (seen_any wc B (HL.out.kept HCC.out (by simp)))
    clear hsm
    go_wp2_with fail
    refine HF.out.mono ?_; rintro _ w0 ⟨rfl, hc0⟩
    have HC0 := Lib.hid (HCC.out.then hc0)
    have hP := parse_any s (by omega) w0 B (HL.out.kept HC0.out (by simp))
    clear hc0
    cases hx : parse s with
    | bad en q =>
      rw [hx] at hP
      have HP := Lib.hid hP
      clear hP hx
      go_wp2_with fail
      refine HP.out.mono ?_; rintro _ w1 ⟨hc1, b, rfl, _, _⟩
      have HC1 := Lib.hid hc1; clear hc1
      have hz := Blk.new w1 #[str [], nils, nils, nils, nils] 28
      obtain ⟨wA, hwA⟩ : ∃ w', w1.alloc (.cells #[str [], nils, nils, nils, nils] 28) = w' := ⟨_, rfl⟩
      rw [hwA] at hz
      have hcA : Chg [] w1 wA := by rw [← hwA]; exact (Chg.refl _ _).alloc _
      obtain ⟨wF, hwF, hcF, hbF⟩ := set5 (str []) (nils) (nils) (nils) (nils) hz
      have HCa := Lib.hid (show Chg [] w1 wF from hcA.trans hcF (fun x hx => .inr (by simp at hx; omega)))
      have z0 := hz.cell 0 _ rfl; have z1 := hz.cell 1 _ rfl; have z2 := hz.cell 2 _ rfl; have z3 := hz.cell 3 _ rfl; have z4 := hz.cell 4 _ rfl
      have y0 := hz.frozen 0; have y1 := hz.frozen 1; have y2 := hz.frozen 2; have y3 := hz.frozen 3; have y4 := hz.frozen 4
      have HBa := Lib.hid hbF
      have xa0 := hbF.cell 0 _ rfl; have xa1 := hbF.cell 1 _ rfl; have xa2 := hbF.cell 2 _ rfl; have xa3 := hbF.cell 3 _ rfl; have xa4 := hbF.cell 4 _ rfl
      clear hcA hcF hbF hz
      go_wp2_with fail
      go_ret
      exact ⟨rfl, (HC0.out.then HC1.out).then HCa.out⟩
    | ok m =>
      rw [hx] at hP
      have HP := Lib.hid hP
      obtain ⟨hwf, _⟩ := parse_sp hx
      have HWF := Lib.hid hwf
      clear hP hx hwf
      go_wp2_with fail
      refine HP.out.mono ?_; rintro _ w1 ⟨hc1, v, rfl, hmod⟩
      have HC1 := Lib.hid (HC0.out.then hc1); clear hc1
      obtain ⟨vix, vvx, vpx, vbx, rfl, hni, hgv, hpv, hsb⟩ := hmod
      obtain ⟨aix, cix, rfl, hi1, hi2⟩ := hni
      obtain ⟨avx, cvx, rfl, hv1, hv2⟩ := hgv
      obtain ⟨apx, cpx, psx, rfl, hp1, hp2, hp3⟩ := hpv
      obtain ⟨abx, cbx, bsx, rfl, hb1, hb2, hb3⟩ := hsb
      have HMx := Lib.hid (show ModAt w1 (New w0 w1) m (.agg #[str m.name, .slice aix m.imports.length cix, .slice avx m.vars.length cvx, .slice apx m.procs.length cpx, .slice abx m.body.len cbx]) from ⟨_, _, _, _, rfl, ⟨_, _, rfl, hi1, hi2⟩, ⟨_, _, rfl, hv1, hv2⟩, ⟨_, _, _, rfl, hp1, hp2, hp3⟩, ⟨_, _, _, rfl, hb1, hb2, hb3⟩⟩)
      clear hi1 hi2 hv1 hv2 hp1 hp2 hp3 hb1 hb2 hb3
      have hz := Blk.new w1 #[str [], nils, nils, nils, nils] 28
      obtain ⟨wA, hwA⟩ : ∃ w', w1.alloc (.cells #[str [], nils, nils, nils, nils] 28) = w' := ⟨_, rfl⟩
      rw [hwA] at hz
      have hcA : Chg [] w1 wA := by rw [← hwA]; exact (Chg.refl _ _).alloc _
      obtain ⟨wF, hwF, hcF, hbF⟩ := set5 (str m.name) (.slice aix m.imports.length cix) (.slice avx m.vars.length cvx) (.slice apx m.procs.length cpx) (.slice abx m.body.len cbx) hz
      have HCx := Lib.hid (show Chg [] w1 wF from hcA.trans hcF (fun x hx => .inr (by simp at hx; omega)))
      have z0 := hz.cell 0 _ rfl; have z1 := hz.cell 1 _ rfl; have z2 := hz.cell 2 _ rfl; have z3 := hz.cell 3 _ rfl; have z4 := hz.cell 4 _ rfl
      have y0 := hz.frozen 0; have y1 := hz.frozen 1; have y2 := hz.frozen 2; have y3 := hz.frozen 3; have y4 := hz.frozen 4
      have HBx := Lib.hid hbF
      have xx0 := hbF.cell 0 _ rfl; have xx1 := hbF.cell 1 _ rfl; have xx2 := hbF.cell 2 _ rfl; have xx3 := hbF.cell 3 _ rfl; have xx4 := hbF.cell 4 _ rfl
      clear hcA hcF hbF hz
      obtain ⟨_, _, _, _, _, _, _, _, he, hgv, hpv⟩ := mod_parts (HMx.out.kept HCx.out (by simp))
      cases he
      have hof := of_any m.vars m.procs HWF.out.fewv HWF.out.fewp (New w0 w1) m.name aix m.imports.length cix abx m.body.len cbx _ _ wF hgv hpv
      have HOF := Lib.hid hof
      clear hof hgv hpv
      go_wp2_with fail
      refine HOF.out.mono ?_; rintro _ w2 ⟨sv, rfl, hsy, hc2⟩
      have HC2 := Lib.hid ((HC1.out.then HCx.out).then hc2)
      have HFIT := Lib.hid (seenL_fit HWF.out.vars HWF.out.procs)
      have hlen := seenL_len HWF.out.fewv HWF.out.fewp
      obtain ⟨L, hLd⟩ : ∃ L, L = insSort (seenL m.vars m.procs) := ⟨_, rfl⟩
      rw [← hLd] at hsy HFIT hlen
      have HSY := Lib.hid hsy
      obtain ⟨sa, sc, hsv, hlc, hrow, _⟩ := hsy
      subst hsv
      have HROW := Lib.hid hrow
      clear hLd hrow hc2 hwA hwF z0 z1 z2 z3 z4 y0 y1 y2 y3 y4 xx0 xx1 xx2 xx3 xx4
      have HCT := Lib.hid (contains_any names (by omega) more F _ w2 (HNM.out.kept HC2.out (by simp)))
      go_wp2_with fail
      refine HCT.out.mono ?_; rintro _ _ ⟨q, rfl, hq, hw⟩; have hw := hw.symm; subst hw
      have HQ2 := Lib.hid hq
      clear hq
      cases q with
      | true =>
        go_wp2_with fail
        go_ret
        exact ⟨rfl, HC2.out⟩
      | false =>
        have hnot : more ∉ names := by
          rcases HQ2.out with h | h
          · cases h
          · exact h
        have HNOT := Lib.hid hnot
        have hml : more.length ≤ 40 := by omega
        have hca : Chg [] w2 (w2.alloc (.cells #[str more, .int .i64 0, .int .i64 3] 44)) := (Chg.refl _ _).alloc _
        have hown : (w2.alloc (.cells #[str more, .int .i64 0, .int .i64 3] 44)).ownsRow 0 44 3 (.slice (some ⟨w2.heap.size, 0, none⟩) 1 1) 1 (Sy.cells ⟨more, 0, 3⟩) := ⟨rfl, .inr ⟨w2.heap.size, 1, _, rfl, Nat.zero_le _, heap_alloc_new w2 _, Nat.le_refl _, by unfold maxLen; omega, rfl, rfl⟩⟩
        have HOWN := Lib.hid hown
        have HAT := Lib.hid ((HROW.out.kept hca (by simp)).at_)
        have HCA := Lib.hid hca
        clear hnot hca hown
        go_wp2_with (at_builtin; go_must (refine wpL_append_any rfl _ _ 38 rfl 44 _ 3 32 infoSym Tryd.underlying38 rfl (by decide) _ 1 _ rfl HOWN.out sa L.length sc (L.flatMap Sy.cells) rfl ?_ HAT.out ?_ ?_ ?_ ?_))
        · exact flat3 L
        · intro u hu
          simp only [List.mem_flatMap, Sy.cells] at hu
          obtain ⟨x, _, hu⟩ := hu
          simp at hu
          rcases hu with rfl | rfl | rfl <;> rfl
        · omega
        · unfold maxLen; omega
        · intro va w3 hown' hch' hmv'
          have ho3 : w3.ownsRow 0 44 3 va (⟨more, 0, 3⟩ :: L : List Sy).length ((⟨more, 0, 3⟩ :: L : List Sy).flatMap Sy.cells) := by
            rw [List.flatMap_cons, List.length_cons, Nat.add_comm]; exact hown'
          have hf3 : From w2.heap.size va := fun g hg => by
            rcases hmv' g hg with h1 | h1
            · simp [blk] at h1; omega
            · simp at h1; omega
          have HC3 := Lib.hid (HCA.out.trans hch' (fun x hx => .inr (by simp [blk] at hx; omega)))
          have HSA := Lib.hid (symsAt_owns ho3 (F := New w2 w3) (fun g hg => ⟨hf3 g hg, owns_lt ho3 g hg⟩))
          clear hown' hch' hmv' hf3 ho3
          have HCL := Lib.hid (clone_any L (by omega) (New wF w2) _ w3 (HSY.out.kept HC3.out (by simp)))
          go_wp2_with fail
          refine HCL.out.mono ?_; rintro _ w4 ⟨vb, rfl, hob, hfb, hc4⟩
          have HOB := Lib.hid (owns_kept hob ((Chg.refl [] w4).alloc (.cells #[str more, .int .i64 5, .int .i64 (-1)] 44)) (by simp))
          have HFB := Lib.hid hfb; have HC4 := Lib.hid (HC3.out.then hc4); have HC34 := Lib.hid hc4
          have hs4 := hc4.size
          clear hob hfb hc4
          go_wp2_with (at_builtin; go_must (refine wpL_append rfl _ _ 38 rfl 44 _ 3 32 infoSym Tryd.underlying38 rfl (by decide) _ _ _ rfl HOB.out ⟨w4.heap.size, 0, none⟩ 1 1 (Sy.cells ⟨more, 5, -1⟩) rfl rfl (cells_new _ _ _) (by simp [Sy.cells, Value.oneCell']) ?_ ?_ ?_))
          · omega
          · unfold maxLen; omega
          · intro vc w5 hown' hch' hmv'
            have ho5 : w5.ownsRow 0 44 3 vc (L ++ [⟨more, 5, -1⟩] : List Sy).length ((L ++ [⟨more, 5, -1⟩] : List Sy).flatMap Sy.cells) := by simpa [List.flatMap_append] using hown'
            have hf5 : From w3.heap.size vc := HFB.out.moved hmv' (by simp; omega)
            have HC5 := Lib.hid ((HC4.out.alloc (.cells #[str more, .int .i64 5, .int .i64 (-1)] 44)).trans hch' (fun x hx => .inr (by have := HFB.out x hx; have := HC3.out.size; omega)))
            have hc35 : Chg [] w3 w5 := (HC34.out.alloc (.cells #[str more, .int .i64 5, .int .i64 (-1)] 44)).trans hch' (fun x hx => .inr (HFB.out x hx))
            have HSB := Lib.hid (symsAt_owns ho5 (F := New w3 w5) (fun g hg => ⟨hf5 g hg, owns_lt ho5 g hg⟩))
            have hCw5 : Chg [] w w5 := HC2.out.then (HC3.out.then hc35)
            have HC25 := Lib.hid (HC3.out.then hc35)
            have fm : ∀ (n : List UInt8), n ∈ names → n.length ≤ 1000000 := fun n hn => by have := HSM.out n hn; omega
            have fa : ∀ x ∈ (⟨more, 0, 3⟩ :: L : List Sy), x.fit := fun x hx => by
              rcases List.mem_cons.1 hx with rfl | hx
              · exact ⟨by show more.length ≤ _; omega, by show (0 : Int) ≤ 0; omega, by show (0 : Int) ≤ _; omega, by show (-1 : Int) ≤ 3; omega, by show (3 : Int) ≤ _; omega⟩
              · exact HFIT.out x hx
            have fb : ∀ x ∈ (L ++ [⟨more, 5, -1⟩] : List Sy), x.fit := fun x hx => by
              rcases List.mem_append.1 hx with hx | hx
              · exact HFIT.out x hx
              · rw [List.mem_singleton] at hx
                subst hx
                exact ⟨by show more.length ≤ _; omega, by show (0 : Int) ≤ 5; omega, by show (5 : Int) ≤ _; omega, by show (-1 : Int) ≤ -1; omega, by show (-1 : Int) ≤ _; omega⟩
            obtain ⟨T, hT⟩ : ∃ T : ByteArray, T = bs (needsT L names) := ⟨_, rfl⟩
            have N1 := Lib.hid (show ∀ w', Chg [] w5 w' → Calls Tryd.prog 13 #[va, .slice a names.length c] w' (fun e w'' => e = .returned (.string T) ∧ Chg [] w' w'') from fun w' hc => by
              have := needs_any _ fa (by simp; omega) names (by omega) fm (New w2 w3) F va (.slice a names.length c) w' B ((HL.out.kept hCw5 (by simp)).kept hc (by simp)) ((HSA.out.kept hc35 (by simp)).kept hc (by simp)) ((HNM.out.kept hCw5 (by simp)).kept hc (by simp))
              rw [needs_cons HNOT.out] at this
              rw [hT]; exact this)
            have N2 := Lib.hid (show ∀ w', Chg [] w5 w' → Calls Tryd.prog 13 #[.slice sa L.length sc, .slice a names.length c] w' (fun e w'' => e = .returned (.string T) ∧ Chg [] w' w'') from fun w' hc => by
              rw [hT]
              exact needs_any L HFIT.out (by omega) names (by omega) fm (New wF w2) F _ (.slice a names.length c) w' B ((HL.out.kept hCw5 (by simp)).kept hc (by simp)) ((HSY.out.kept HC25.out (by simp)).kept hc (by simp)) ((HNM.out.kept hCw5 (by simp)).kept hc (by simp)))
            have N3 := Lib.hid (show ∀ w', Chg [] w5 w' → Calls Tryd.prog 13 #[vc, .slice a names.length c] w' (fun e w'' => e = .returned (.string T) ∧ Chg [] w' w'') from fun w' hc => by
              have := needs_any _ fb (by simp; omega) names (by omega) fm (New w3 w5) F vc (.slice a names.length c) w' B ((HL.out.kept hCw5 (by simp)).kept hc (by simp)) (HSB.out.kept hc (by simp)) ((HNM.out.kept hCw5 (by simp)).kept hc (by simp))
              rw [needs_snoc HNOT.out] at this
              rw [hT]; exact this)
            have N4 := Lib.hid (show ∀ w', Chg [] w5 w' → Calls Tryd.prog 13 #[.slice sa L.length sc, nils] w' (fun e w'' => e = .returned (str []) ∧ Chg [] w' w'') from fun w' hc =>
              needs_any L HFIT.out (by omega) [] (by simp) (fun n hn => by cases hn) (New wF w2) F _ nils w' B ((HL.out.kept hCw5 (by simp)).kept hc (by simp)) ((HSY.out.kept HC25.out (by simp)).kept hc (by simp)) NamesAt.nil)
            have HCW := Lib.hid hCw5
            clear hown' hch' hmv' ho5 hf5 hc35 hCw5 fm fa fb hT
            go_wp2_with fail
            refine (N1.out _ (Chg.refl _ _)).mono ?_; rintro _ w6 ⟨rfl, hq⟩
            have Q1 := Lib.hid hq; clear hq
            go_wp2_with fail
            refine (N2.out _ Q1.out).mono ?_; rintro _ w7 ⟨rfl, hq⟩
            have Q2 := Lib.hid (Q1.out.then hq); clear hq
            go_wp2_with fail
            refine (N3.out _ Q2.out).mono ?_; rintro _ w8 ⟨rfl, hq⟩
            have Q3 := Lib.hid (Q2.out.then hq); clear hq
            go_wp2_with fail
            refine (N2.out _ Q3.out).mono ?_; rintro _ w9 ⟨rfl, hq⟩
            have Q4 := Lib.hid (Q3.out.then hq); clear hq
            go_wp2_with fail
            refine (N4.out _ Q4.out).mono ?_; rintro _ w10 ⟨rfl, hq⟩
            have Q5 := Lib.hid (Q4.out.then hq); clear hq
            go_wp2_with fail
            go_ret
            exact ⟨rfl, HCW.out.then Q5.out⟩
end Go.Proofs.YtoeblajmelbbmaaDoor
