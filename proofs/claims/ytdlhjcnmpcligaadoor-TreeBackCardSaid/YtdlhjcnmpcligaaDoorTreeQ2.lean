/- What the statements run: the fact, TreeBack. -/
import Derived.Test.YtdlhjcnmpcligaaDoorTreeQ1
namespace Go.Mq.Tree
open Go Go.RowKit Go.Mq
/-- What a statement comes to: true. -/
abbrev Holds (w : World) (e : Ending) (w' : World) : Prop := e = .returned (.bool true) ∧ Chg [] w w'
end Go.Mq.Tree
namespace Go.Proofs.YtdlhjcnmpcligaaDoor
open Go Go.RowKit Go.Mq Go.Mq.Tree
set_option maxRecDepth 100000
set_option maxHeartbeats 4000000
theorem parsed_any (w : World) (B : Nat) (hL : Laid w B) : Calls Tryd.prog 5 #[] w (Holds w) := by
  obtain ⟨m, hm, ht⟩ := parsed_at
  obtain ⟨hwf, hle⟩ := parse_le hm
  obtain ⟨src, hsrc⟩ : ∃ l : List UInt8, l = [109, 111, 100, 117, 108, 101, 32, 109, 59, 105, 109, 112, 111, 114, 116, 32, 97, 59, 118, 97, 114, 32, 120, 42, 58, 97, 114, 114, 97, 121, 32, 51, 59, 112, 114, 111, 99, 32, 102, 42, 40, 112, 44, 113, 41, 59, 118, 97, 114, 32, 116, 59, 98, 101, 103, 105, 110, 32, 116, 58, 61, 112, 42, 40, 113, 43, 49, 41, 59, 105, 102, 32, 116, 32, 116, 104, 101, 110, 32, 114, 101, 116, 117, 114, 110, 32, 45, 116, 59, 101, 110, 100, 59, 101, 110, 100, 59, 98, 101, 103, 105, 110, 32, 120, 91, 48, 93, 58, 61, 97, 46, 103, 40, 49, 41, 45, 40, 50, 45, 51, 41, 59, 101, 110, 100, 46] := ⟨_, rfl⟩
  have hP := parse_any [109, 111, 100, 117, 108, 101, 32, 109, 59, 105, 109, 112, 111, 114, 116, 32, 97, 59, 118, 97, 114, 32, 120, 42, 58, 97, 114, 114, 97, 121, 32, 51, 59, 112, 114, 111, 99, 32, 102, 42, 40, 112, 44, 113, 41, 59, 118, 97, 114, 32, 116, 59, 98, 101, 103, 105, 110, 32, 116, 58, 61, 112, 42, 40, 113, 43, 49, 41, 59, 105, 102, 32, 116, 32, 116, 104, 101, 110, 32, 114, 101, 116, 117, 114, 110, 32, 45, 116, 59, 101, 110, 100, 59, 101, 110, 100, 59, 98, 101, 103, 105, 110, 32, 120, 91, 48, 93, 58, 61, 97, 46, 103, 40, 49, 41, 45, 40, 50, 45, 51, 41, 59, 101, 110, 100, 46] (by decide) w B hL
  rw [hm] at hP
  have HP := Lib.hid hP
  have HT := Lib.hid ht; have HWF := Lib.hid hwf; have HL := Lib.hid hL
  have HLE := Lib.hid (show (modT m).length ≤ 1099511627776 by rw [ht]; decide)
  clear hP hm ht hwf hle hL hsrc
  go_enter Tryd.func5, Tryd.ntmps5
  go_wp2_with fail
  refine HP.out.mono ?_; rintro _ w1 ⟨hc1, v, rfl, hmod⟩
  have HC1 := Lib.hid hc1; clear hc1
  obtain ⟨via, vva, vpa, vba, rfl, hni, hgv, hpv, hsb⟩ := hmod
  obtain ⟨aia, cia, rfl, hi1, hi2⟩ := hni
  obtain ⟨ava, cva, rfl, hv1, hv2⟩ := hgv
  obtain ⟨apa, cpa, psa, rfl, hp1, hp2, hp3⟩ := hpv
  obtain ⟨aba, cba, bsa, rfl, hb1, hb2, hb3⟩ := hsb
  have HMa := Lib.hid (show ModAt w1 (New w w1) m (.agg #[str m.name, .slice aia m.imports.length cia, .slice ava m.vars.length cva, .slice apa m.procs.length cpa, .slice aba m.body.len cba]) from ⟨_, _, _, _, rfl, ⟨_, _, rfl, hi1, hi2⟩, ⟨_, _, rfl, hv1, hv2⟩, ⟨_, _, _, rfl, hp1, hp2, hp3⟩, ⟨_, _, _, rfl, hb1, hb2, hb3⟩⟩)
  clear hi1 hi2 hv1 hv2 hp1 hp2 hp3 hb1 hb2 hb3
  have hz := Blk.new w1 #[str [], nils, nils, nils, nils] 29
  obtain ⟨wA, hwA⟩ : ∃ w', w1.alloc (.cells #[str [], nils, nils, nils, nils] 29) = w' := ⟨_, rfl⟩
  rw [hwA] at hz
  have hcA : Chg [] w1 wA := by rw [← hwA]; exact (Chg.refl _ _).alloc _
  obtain ⟨wF, hwF, hcF, hbF⟩ := set5 (str m.name) (.slice aia m.imports.length cia) (.slice ava m.vars.length cva) (.slice apa m.procs.length cpa) (.slice aba m.body.len cba) hz
  have HCa := Lib.hid (show Chg [] w1 wF from hcA.trans hcF (fun x hx => .inr (by simp at hx; omega)))
  have z0 := hz.cell 0 _ rfl; have z1 := hz.cell 1 _ rfl; have z2 := hz.cell 2 _ rfl; have z3 := hz.cell 3 _ rfl; have z4 := hz.cell 4 _ rfl
  have y0 := hz.frozen 0; have y1 := hz.frozen 1; have y2 := hz.frozen 2; have y3 := hz.frozen 3; have y4 := hz.frozen 4
  have HBa := Lib.hid hbF
  have xa0 := hbF.cell 0 _ rfl; have xa1 := hbF.cell 1 _ rfl; have xa2 := hbF.cell 2 _ rfl; have xa3 := hbF.cell 3 _ rfl; have xa4 := hbF.cell 4 _ rfl
  clear hcA hcF hbF hz
  have hpr := print_any m HWF.out (New w w1) _ wF B ((HL.out.kept HC1.out (by simp)).kept HCa.out (by simp)) (fun x hx => Nat.lt_of_lt_of_le hx.2 HCa.out.size) (HMa.out.kept HCa.out (by simp)) HLE.out
  rw [HT.out] at hpr
  have HPR := Lib.hid hpr
  clear hpr
  go_wp2_with fail
  refine HPR.out.mono ?_; rintro _ w2 ⟨rfl, hc2⟩
  have HC2 := Lib.hid hc2; clear hc2
  go_wp2_with fail
  go_ret
  exact ⟨rfl, (HC1.out.then HCa.out).then HC2.out⟩
theorem back_any (s : List UInt8) (hs63 : s.length ≤ 9223372036854775807) (w : World) (B : Nat) (hL : Laid w B) : Calls Tryd.prog 4 #[str s] w (Holds w) := by
  by_cases hlen : 550 < s.length
  · go_enter Tryd.func4, Tryd.ntmps4
    go_wp2_with fail
    go_ret
    exact ⟨rfl, Chg.refl _ _⟩
  have HF := Lib.hid (parsed_any w B hL)
  have HL := Lib.hid hL
  clear hL
  have h550 : s.length ≤ 550 := by omega
  have H550 := Lib.hid h550
  cases hx : parse s with
  | bad en q =>
    have HX := Lib.hid hx
    clear hx
    go_enter Tryd.func4, Tryd.ntmps4
    go_wp2_with fail
    refine HF.out.mono ?_; rintro _ w0 ⟨rfl, hc0⟩
    have hP := parse_any s (by omega) w0 B (HL.out.kept hc0 (by simp))
    rw [HX.out] at hP
    have HP := Lib.hid hP; have HC0 := Lib.hid hc0
    clear hP hc0
    go_wp2_with fail
    refine HP.out.mono ?_; rintro _ w1 ⟨hc1, b, rfl, _, _⟩
    have HC1 := Lib.hid hc1; clear hc1
    have hz := Blk.new w1 #[str [], nils, nils, nils, nils] 29
    obtain ⟨wA, hwA⟩ : ∃ w', w1.alloc (.cells #[str [], nils, nils, nils, nils] 29) = w' := ⟨_, rfl⟩
    rw [hwA] at hz
    have hcA : Chg [] w1 wA := by rw [← hwA]; exact (Chg.refl _ _).alloc _
    obtain ⟨wF, hwF, hcF, hbF⟩ := set5 (str []) (nils) (nils) (nils) (nils) hz
    have HCa := Lib.hid (show Chg [] w1 wF from hcA.trans hcF (fun x hx => .inr (by simp at hx; omega)))
    have z0 := hz.cell 0 _ rfl; have z1 := hz.cell 1 _ rfl; have z2 := hz.cell 2 _ rfl; have z3 := hz.cell 3 _ rfl; have z4 := hz.cell 4 _ rfl
    have y0 := hz.frozen 0; have y1 := hz.frozen 1; have y2 := hz.frozen 2; have y3 := hz.frozen 3; have y4 := hz.frozen 4
    have HBa := Lib.hid hbF
    have xa0 := hbF.cell 0 _ rfl; have xa1 := hbF.cell 1 _ rfl; have xa2 := hbF.cell 2 _ rfl; have xa3 := hbF.cell 3 _ rfl; have xa4 := hbF.cell 4 _ rfl
    clear hcA hcF hbF hz
    go_wp2_with fail
    go_ret
    exact ⟨rfl, (HC0.out.then HC1.out).then HCa.out⟩
  | ok m =>
    obtain ⟨m', hm', ht', hi', hv', hp'⟩ := back h550 hx (Spread.refl _)
    obtain ⟨hwf, hle⟩ := parse_le hx
    obtain ⟨hwf', _⟩ := parse_le hm'
    obtain ⟨T, hT⟩ : ∃ T : List UInt8, T = modT m := ⟨_, rfl⟩
    have hTl : T.length ≤ 44000 := by rw [hT]; omega
    rw [← hT] at hm' ht'
    have HX := Lib.hid hx; have HM' := Lib.hid hm'; have HT := Lib.hid hT; have HT' := Lib.hid ht'; have HWF := Lib.hid hwf; have HWF' := Lib.hid hwf'
    have HI := Lib.hid hi'; have HV := Lib.hid hv'; have HPN := Lib.hid hp'
    clear hx hm' ht' hi' hv' hp' hle hwf hwf' hT
    go_enter Tryd.func4, Tryd.ntmps4
    go_wp2_with fail
    refine HF.out.mono ?_; rintro _ w0 ⟨rfl, hc0⟩
    have hP := parse_any s (by omega) w0 B (HL.out.kept hc0 (by simp))
    rw [HX.out] at hP
    have HP := Lib.hid hP; have HC0 := Lib.hid hc0
    clear hP hc0
    go_wp2_with fail
    refine HP.out.mono ?_; rintro _ w1 ⟨hc1, v, rfl, hmod⟩
    have HC1 := Lib.hid (HC0.out.then hc1); have hsz1 := hc1.size
    have HS := Lib.hid hsz1
    clear hc1 hsz1
    obtain ⟨via, vva, vpa, vba, rfl, hni, hgv, hpv, hsb⟩ := hmod
    obtain ⟨aia, cia, rfl, hi1, hi2⟩ := hni
    obtain ⟨ava, cva, rfl, hv1, hv2⟩ := hgv
    obtain ⟨apa, cpa, psa, rfl, hp1, hp2, hp3⟩ := hpv
    obtain ⟨aba, cba, bsa, rfl, hb1, hb2, hb3⟩ := hsb
    have HMa := Lib.hid (show ModAt w1 (New w0 w1) m (.agg #[str m.name, .slice aia m.imports.length cia, .slice ava m.vars.length cva, .slice apa m.procs.length cpa, .slice aba m.body.len cba]) from ⟨_, _, _, _, rfl, ⟨_, _, rfl, hi1, hi2⟩, ⟨_, _, rfl, hv1, hv2⟩, ⟨_, _, _, rfl, hp1, hp2, hp3⟩, ⟨_, _, _, rfl, hb1, hb2, hb3⟩⟩)
    clear hi1 hi2 hv1 hv2 hp1 hp2 hp3 hb1 hb2 hb3
    have hz := Blk.new w1 #[str [], nils, nils, nils, nils] 29
    obtain ⟨wA, hwA⟩ : ∃ w', w1.alloc (.cells #[str [], nils, nils, nils, nils] 29) = w' := ⟨_, rfl⟩
    rw [hwA] at hz
    have hcA : Chg [] w1 wA := by rw [← hwA]; exact (Chg.refl _ _).alloc _
    obtain ⟨wF, hwF, hcF, hbF⟩ := set5 (str m.name) (.slice aia m.imports.length cia) (.slice ava m.vars.length cva) (.slice apa m.procs.length cpa) (.slice aba m.body.len cba) hz
    have HCa := Lib.hid (show Chg [] w1 wF from hcA.trans hcF (fun x hx => .inr (by simp at hx; omega)))
    have z0 := hz.cell 0 _ rfl; have z1 := hz.cell 1 _ rfl; have z2 := hz.cell 2 _ rfl; have z3 := hz.cell 3 _ rfl; have z4 := hz.cell 4 _ rfl
    have y0 := hz.frozen 0; have y1 := hz.frozen 1; have y2 := hz.frozen 2; have y3 := hz.frozen 3; have y4 := hz.frozen 4
    have HBa := Lib.hid hbF
    have xa0 := hbF.cell 0 _ rfl; have xa1 := hbF.cell 1 _ rfl; have xa2 := hbF.cell 2 _ rfl; have xa3 := hbF.cell 3 _ rfl; have xa4 := hbF.cell 4 _ rfl
    clear hcA hcF hbF hz
    have hpr := print_any m HWF.out (New w0 w1) _ wF B ((HL.out.kept HC1.out (by simp)).kept HCa.out (by simp)) (fun x hx => Nat.lt_of_lt_of_le hx.2 HCa.out.size) (HMa.out.kept HCa.out (by simp)) (by rw [← HT.out]; omega)
    rw [← HT.out] at hpr
    have HPR := Lib.hid hpr
    clear hpr
    go_wp2_with fail
    refine HPR.out.mono ?_; rintro _ w2 ⟨rfl, hc2⟩
    have HC2 := Lib.hid ((HC1.out.then HCa.out).then hc2)
    have hba := HBa.out.kept hc2 (by simp)
    have hma := (HMa.out.kept HCa.out (by simp)).kept hc2 (by simp)
    have HBb := Lib.hid hba; have HMb := Lib.hid hma
    clear hc2 hba hma
    clear hwA hwF z0 z1 z2 z3 z4 y0 y1 y2 y3 y4
    clear xa0 xa1 xa2 xa3 xa4
    have hP := parse_any T (by omega) w2 B (HL.out.kept HC2.out (by simp))
    rw [HM'.out] at hP
    have HP2 := Lib.hid hP
    clear hP
    go_wp2_with fail
    refine HP2.out.mono ?_; rintro _ w3 ⟨hc3, v, rfl, hmod⟩
    have HC3 := Lib.hid hc3
    have hbb := HBb.out.kept hc3 (by simp)
    have hmb := HMb.out.kept hc3 (by simp)
    have HBc := Lib.hid hbb; have HMc := Lib.hid hmb
    clear hc3 hbb hmb
    obtain ⟨vid, vvd, vpd, vbd, rfl, hni, hgv, hpv, hsb⟩ := hmod
    obtain ⟨aid, cid, rfl, hi1, hi2⟩ := hni
    obtain ⟨avd, cvd, rfl, hv1, hv2⟩ := hgv
    obtain ⟨apd, cpd, psd, rfl, hp1, hp2, hp3⟩ := hpv
    obtain ⟨abd, cbd, bsd, rfl, hb1, hb2, hb3⟩ := hsb
    have HMd := Lib.hid (show ModAt w3 (New w2 w3) m' (.agg #[str m'.name, .slice aid m'.imports.length cid, .slice avd m'.vars.length cvd, .slice apd m'.procs.length cpd, .slice abd m'.body.len cbd]) from ⟨_, _, _, _, rfl, ⟨_, _, rfl, hi1, hi2⟩, ⟨_, _, rfl, hv1, hv2⟩, ⟨_, _, _, rfl, hp1, hp2, hp3⟩, ⟨_, _, _, rfl, hb1, hb2, hb3⟩⟩)
    clear hi1 hi2 hv1 hv2 hp1 hp2 hp3 hb1 hb2 hb3
    have hz := Blk.new w3 #[str [], nils, nils, nils, nils] 29
    obtain ⟨wC, hwC⟩ : ∃ w', w3.alloc (.cells #[str [], nils, nils, nils, nils] 29) = w' := ⟨_, rfl⟩
    rw [hwC] at hz
    have hcA : Chg [] w3 wC := by rw [← hwC]; exact (Chg.refl _ _).alloc _
    obtain ⟨wG, hwG, hcF, hbF⟩ := set5 (str m'.name) (.slice aid m'.imports.length cid) (.slice avd m'.vars.length cvd) (.slice apd m'.procs.length cpd) (.slice abd m'.body.len cbd) hz
    have HCd := Lib.hid (show Chg [] w3 wG from hcA.trans hcF (fun x hx => .inr (by simp at hx; omega)))
    have z0 := hz.cell 0 _ rfl; have z1 := hz.cell 1 _ rfl; have z2 := hz.cell 2 _ rfl; have z3 := hz.cell 3 _ rfl; have z4 := hz.cell 4 _ rfl
    have y0 := hz.frozen 0; have y1 := hz.frozen 1; have y2 := hz.frozen 2; have y3 := hz.frozen 3; have y4 := hz.frozen 4
    have HBd := Lib.hid hbF
    have xd0 := hbF.cell 0 _ rfl; have xd1 := hbF.cell 1 _ rfl; have xd2 := hbF.cell 2 _ rfl; have xd3 := hbF.cell 3 _ rfl; have xd4 := hbF.cell 4 _ rfl
    clear hcA hcF hbF hz
    have hpr := print_any m' HWF'.out (New w2 w3) _ wG B (((HL.out.kept HC2.out (by simp)).kept HC3.out (by simp)).kept HCd.out (by simp)) (fun x hx => Nat.lt_of_lt_of_le hx.2 HCd.out.size) (HMd.out.kept HCd.out (by simp)) (by rw [HT'.out]; omega)
    rw [HT'.out] at hpr
    have HPR2 := Lib.hid hpr
    clear hpr
    go_wp2_with fail
    refine HPR2.out.mono ?_; rintro _ w4 ⟨rfl, hc4⟩
    have HC4 := Lib.hid hc4
    have hbd := HBd.out.kept hc4 (by simp)
    have hbc := (HBc.out.kept HCd.out (by simp)).kept hc4 (by simp)
    obtain ⟨_, _, _, _, he, hna, _⟩ := HMc.out
    cases he
    obtain ⟨_, _, _, _, he, hnd, _⟩ := HMd.out
    cases he
    rw [HI.out] at hnd
    have hq := equal_any (New w2 w3) (New w0 w1) m.imports _ _ w4 ((hnd.kept HCd.out (by simp)).kept hc4 (by simp)) ((hna.kept HCd.out (by simp)).kept hc4 (by simp)) (by have := HWF.out.few; omega)
    have HQ := Lib.hid hq
    have d1 := hbd.cell 1 _ rfl; have d2 := hbd.cell 2 _ rfl; have d3 := hbd.cell 3 _ rfl
    have c1 := hbc.cell 1 _ rfl; have c2 := hbc.cell 2 _ rfl; have c3 := hbc.cell 3 _ rfl
    have i1 : m'.imports.length = m.imports.length := by rw [HI.out]
    have i2 := HV.out
    have i3 := HPN.out
    clear hq hbd hbc hc4 hna hnd
    clear hwC hwG z0 z1 z2 z3 z4 y0 y1 y2 y3 y4
    clear xd0 xd1 xd2 xd3 xd4
    go_wp2_with fail
    refine HQ.out.mono ?_; rintro _ w5 ⟨rfl, hc5⟩
    have HC5 := Lib.hid hc5; clear hc5
    go_wp2_with fail
    go_ret
    exact ⟨rfl, (((HC2.out.then HC3.out).then HCd.out).then HC4.out).then HC5.out⟩
end Go.Proofs.YtdlhjcnmpcligaaDoor
