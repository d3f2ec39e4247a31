/- What TreeBlanks runs. -/
import Derived.Test.YtdlhjcnmpcligaaDoorTreeQ2
namespace Go.Mq.Tree
open Go Go.RowKit Go.Mq
/-- The four that may stand for a blank. -/
theorem four (P : Program) (t : TypeId) (hI : ∀ (r : Nat) (v : Value), (#[str [32], str [10], str [32, 32, 10], str [32, 32, 32]] : Array Value)[r]? = some v → ∀ w, (Instr.index t (.agg #[str [32], str [10], str [32, 32, 10], str [32, 32, 32]]) (.int .i64 r)).run P w = .ok v w) (r : Nat) (hr : r < 4) :
    ∃ g : List UInt8, (∀ w, (Instr.index t (.agg #[str [32], str [10], str [32, 32, 10], str [32, 32, 32]]) (.int .i64 r)).run P w = .ok (str g) w) ∧ g ≠ [] ∧ (∀ x ∈ g, gap x = true) ∧ g.length ≤ 3 := by
  match r, hr with
  | 0, _ => exact ⟨_, hI 0 _ rfl, by decide, by decide, by decide⟩
  | 1, _ => exact ⟨_, hI 1 _ rfl, by decide, by decide, by decide⟩
  | 2, _ => exact ⟨_, hI 2 _ rfl, by decide, by decide, by decide⟩
  | 3, _ => exact ⟨_, hI 3 _ rfl, by decide, by decide, by decide⟩
end Go.Mq.Tree
namespace Go.Proofs.YtdlhjcnmpcligaaDoor
open Go Go.RowKit Go.Mq Go.Mq.Tree
set_option maxRecDepth 100000
set_option maxHeartbeats 2000000
theorem blanks_any (s : List UInt8) (hs63 : s.length ≤ 9223372036854775807) (a : Option Addr) (l : List Int) (c : Nat) (hl63 : l.length ≤ 9223372036854775807) (w : World) (B : Nat) (hL : Laid w B) (hat : At w a (l.map (Value.int .i64))) :
    Calls Tryd.prog 3 #[str s, .slice a l.length c] w (Holds w) := by
  by_cases hlen : 550 < s.length
  · go_enter Tryd.func3, Tryd.ntmps3
    go_wp2_with fail
    go_ret
    exact ⟨rfl, Chg.refl _ _⟩
  by_cases hlen2 : 40 < l.length
  · go_enter Tryd.func3, Tryd.ntmps3
    go_wp2_with fail
    go_ret
    exact ⟨rfl, Chg.refl _ _⟩
  have HF := Lib.hid (parsed_any w B hL)
  have HL := Lib.hid hL
  have HAT := Lib.hid hat
  clear hL hat
  have h550 : s.length ≤ 550 := by omega
  cases hx : parse s with
  | bad en q =>
    have HX := Lib.hid hx
    clear hx
    go_enter Tryd.func3, Tryd.ntmps3
    go_wp2_with fail
    refine HF.out.mono ?_; rintro _ w0 ⟨rfl, hc0⟩
    have hP := parse_any s (by omega) w0 B (HL.out.kept hc0 (by simp))
    rw [HX.out] at hP
    have HP := Lib.hid hP; have HC0 := Lib.hid hc0
    clear hP hc0
    go_wp2_with fail
    refine HP.out.mono ?_; rintro _ w1 ⟨hc1, b, rfl, _, _⟩
    have HC1 := Lib.hid hc1; clear hc1
    have hz := Blk.new w1 #[str [], nils, nils, nils, nils] 29
    obtain ⟨wA, hwA⟩ : ∃ w', w1.alloc (.cells #[str [], nils, nils, nils, nils] 29) = w' := ⟨_, rfl⟩
    rw [hwA] at hz
    have hcA : Chg [] w1 wA := by rw [← hwA]; exact (Chg.refl _ _).alloc _
    obtain ⟨wF, hwF, hcF, hbF⟩ := set5 (str []) (nils) (nils) (nils) (nils) hz
    have HCa := Lib.hid (show Chg [] w1 wF from hcA.trans hcF (fun x hx => .inr (by simp at hx; omega)))
    have z0 := hz.cell 0 _ rfl; have z1 := hz.cell 1 _ rfl; have z2 := hz.cell 2 _ rfl; have z3 := hz.cell 3 _ rfl; have z4 := hz.cell 4 _ rfl
    have y0 := hz.frozen 0; have y1 := hz.frozen 1; have y2 := hz.frozen 2; have y3 := hz.frozen 3; have y4 := hz.frozen 4
    have HBa := Lib.hid hbF
    have xa0 := hbF.cell 0 _ rfl; have xa1 := hbF.cell 1 _ rfl; have xa2 := hbF.cell 2 _ rfl; have xa3 := hbF.cell 3 _ rfl; have xa4 := hbF.cell 4 _ rfl
    clear hcA hcF hbF hz
    go_wp2_with fail
    go_ret
    exact ⟨rfl, (HC0.out.then HC1.out).then HCa.out⟩
  | ok m =>
    obtain ⟨hwf, hle⟩ := parse_le hx
    have HBK := Lib.hid (fun (u : List UInt8) (hu : Spread (modT m) u) => back h550 hx hu)
    obtain ⟨T, hT⟩ : ∃ T : List UInt8, T = modT m := ⟨_, rfl⟩
    have hTl : T.length ≤ 44000 := by rw [hT]; omega
    have HX := Lib.hid hx; have HT := Lib.hid hT; have HWF := Lib.hid hwf
    clear hx hle hwf hT
    by_cases hl0 : l.length = 0
    · go_enter Tryd.func3, Tryd.ntmps3
      go_wp2_with fail
      refine HF.out.mono ?_; rintro _ w0 ⟨rfl, hc0⟩
      have hP := parse_any s (by omega) w0 B (HL.out.kept hc0 (by simp))
      rw [HX.out] at hP
      have HP := Lib.hid hP; have HC0 := Lib.hid hc0
      clear hP hc0
      go_wp2_with fail
      refine HP.out.mono ?_; rintro _ w1 ⟨hc1, v, rfl, hmod⟩
      have HC1 := Lib.hid (HC0.out.then hc1)
      clear hc1
      obtain ⟨via, vva, vpa, vba, rfl, hni, hgv, hpv, hsb⟩ := hmod
      obtain ⟨aia, cia, rfl, hi1, hi2⟩ := hni
      obtain ⟨ava, cva, rfl, hv1, hv2⟩ := hgv
      obtain ⟨apa, cpa, psa, rfl, hp1, hp2, hp3⟩ := hpv
      obtain ⟨aba, cba, bsa, rfl, hb1, hb2, hb3⟩ := hsb
      have HMa := Lib.hid (show ModAt w1 (New w0 w1) m (.agg #[str m.name, .slice aia m.imports.length cia, .slice ava m.vars.length cva, .slice apa m.procs.length cpa, .slice aba m.body.len cba]) from ⟨_, _, _, _, rfl, ⟨_, _, rfl, hi1, hi2⟩, ⟨_, _, rfl, hv1, hv2⟩, ⟨_, _, _, rfl, hp1, hp2, hp3⟩, ⟨_, _, _, rfl, hb1, hb2, hb3⟩⟩)
      clear hi1 hi2 hv1 hv2 hp1 hp2 hp3 hb1 hb2 hb3
      have hz := Blk.new w1 #[str [], nils, nils, nils, nils] 29
      obtain ⟨wA, hwA⟩ : ∃ w', w1.alloc (.cells #[str [], nils, nils, nils, nils] 29) = w' := ⟨_, rfl⟩
      rw [hwA] at hz
      have hcA : Chg [] w1 wA := by rw [← hwA]; exact (Chg.refl _ _).alloc _
      obtain ⟨wF, hwF, hcF, hbF⟩ := set5 (str m.name) (.slice aia m.imports.length cia) (.slice ava m.vars.length cva) (.slice apa m.procs.length cpa) (.slice aba m.body.len cba) hz
      have HCa := Lib.hid (show Chg [] w1 wF from hcA.trans hcF (fun x hx => .inr (by simp at hx; omega)))
      have z0 := hz.cell 0 _ rfl; have z1 := hz.cell 1 _ rfl; have z2 := hz.cell 2 _ rfl; have z3 := hz.cell 3 _ rfl; have z4 := hz.cell 4 _ rfl
      have y0 := hz.frozen 0; have y1 := hz.frozen 1; have y2 := hz.frozen 2; have y3 := hz.frozen 3; have y4 := hz.frozen 4
      have HBa := Lib.hid hbF
      have xa0 := hbF.cell 0 _ rfl; have xa1 := hbF.cell 1 _ rfl; have xa2 := hbF.cell 2 _ rfl; have xa3 := hbF.cell 3 _ rfl; have xa4 := hbF.cell 4 _ rfl
      clear hcA hcF hbF hz
      go_wp2_with fail
      go_ret
      exact ⟨rfl, HC1.out.then HCa.out⟩
    go_enter Tryd.func3, Tryd.ntmps3
    go_wp2_with fail
    refine HF.out.mono ?_; rintro _ w0 ⟨rfl, hc0⟩
    have hP := parse_any s (by omega) w0 B (HL.out.kept hc0 (by simp))
    rw [HX.out] at hP
    have HP := Lib.hid hP; have HC0 := Lib.hid hc0
    clear hP hc0
    go_wp2_with fail
    refine HP.out.mono ?_; rintro _ w1 ⟨hc1, v, rfl, hmod⟩
    have HC1 := Lib.hid (HC0.out.then hc1)
    clear hc1
    obtain ⟨via, vva, vpa, vba, rfl, hni, hgv, hpv, hsb⟩ := hmod
    obtain ⟨aia, cia, rfl, hi1, hi2⟩ := hni
    obtain ⟨ava, cva, rfl, hv1, hv2⟩ := hgv
    obtain ⟨apa, cpa, psa, rfl, hp1, hp2, hp3⟩ := hpv
    obtain ⟨aba, cba, bsa, rfl, hb1, hb2, hb3⟩ := hsb
    have HMa := Lib.hid (show ModAt w1 (New w0 w1) m (.agg #[str m.name, .slice aia m.imports.length cia, .slice ava m.vars.length cva, .slice apa m.procs.length cpa, .slice aba m.body.len cba]) from ⟨_, _, _, _, rfl, ⟨_, _, rfl, hi1, hi2⟩, ⟨_, _, rfl, hv1, hv2⟩, ⟨_, _, _, rfl, hp1, hp2, hp3⟩, ⟨_, _, _, rfl, hb1, hb2, hb3⟩⟩)
    clear hi1 hi2 hv1 hv2 hp1 hp2 hp3 hb1 hb2 hb3
    have hz := Blk.new w1 #[str [], nils, nils, nils, nils] 29
    obtain ⟨wA, hwA⟩ : ∃ w', w1.alloc (.cells #[str [], nils, nils, nils, nils] 29) = w' := ⟨_, rfl⟩
    rw [hwA] at hz
    have hcA : Chg [] w1 wA := by rw [← hwA]; exact (Chg.refl _ _).alloc _
    obtain ⟨wF, hwF, hcF, hbF⟩ := set5 (str m.name) (.slice aia m.imports.length cia) (.slice ava m.vars.length cva) (.slice apa m.procs.length cpa) (.slice aba m.body.len cba) hz
    have HCa := Lib.hid (show Chg [] w1 wF from hcA.trans hcF (fun x hx => .inr (by simp at hx; omega)))
    have z0 := hz.cell 0 _ rfl; have z1 := hz.cell 1 _ rfl; have z2 := hz.cell 2 _ rfl; have z3 := hz.cell 3 _ rfl; have z4 := hz.cell 4 _ rfl
    have y0 := hz.frozen 0; have y1 := hz.frozen 1; have y2 := hz.frozen 2; have y3 := hz.frozen 3; have y4 := hz.frozen 4
    have HBa := Lib.hid hbF
    have xa0 := hbF.cell 0 _ rfl; have xa1 := hbF.cell 1 _ rfl; have xa2 := hbF.cell 2 _ rfl; have xa3 := hbF.cell 3 _ rfl; have xa4 := hbF.cell 4 _ rfl
    clear hcA hcF hbF hz
    have hpr := print_any m HWF.out (New w0 w1) _ wF B ((HL.out.kept HC1.out (by simp)).kept HCa.out (by simp)) (fun x hx => Nat.lt_of_lt_of_le hx.2 HCa.out.size) (HMa.out.kept HCa.out (by simp)) (by rw [← HT.out]; omega)
    rw [← HT.out] at hpr
    have HPR := Lib.hid hpr
    clear hpr
    go_wp2_with fail
    refine HPR.out.mono ?_; rintro _ w2 ⟨rfl, hc2⟩
    have HC2 := Lib.hid ((HC1.out.then HCa.out).then hc2)
    clear hc2
    clear hwA hwF z0 z1 z2 z3 z4 y0 y1 y2 y3 y4
    clear xa0 xa1 xa2 xa3 xa4
    go_wp2_with fail
    go_loopw [8, 9, 10] (fun o n i wr => ∃ (k cn : Nat) (u : List UInt8), o = str u ∧ n = .int .i64 cn ∧ i = .int .i64 k ∧ w2 = wr ∧ k ≤ T.length ∧ cn ≤ k ∧ u.length ≤ 3 * k ∧ ∀ v', Spread (T.drop k) v' → Spread T (u ++ v')) (fun _ _ i _ => T.length - (intOf i).toNat)
    case atStart => exact ⟨0, 0, [], rfl, rfl, rfl, rfl, Nat.zero_le _, Nat.le_refl _, Nat.le_refl _, fun v' h => h⟩
    case round =>
      obtain ⟨k, cn, u, rfl, rfl, rfl, rfl, hk, hcn, hul, hsp⟩ := hrel
      have HSP := Lib.hid hsp
      clear hsp
      by_cases hlt : k < T.length
      · obtain ⟨b, hb⟩ : ∃ b, T[k]? = some b := ⟨T[k], List.getElem?_eq_getElem hlt⟩
        have hdrop : T.drop k = b :: T.drop (k + 1) := by
          rw [List.drop_eq_getElem_cons hlt]
          congr 1
          rw [List.getElem?_eq_getElem hlt] at hb
          exact Option.some.inj hb
        have HD := Lib.hid hdrop
        have hidx := run_index_str (P := Tryd.prog) Tryd.underlying9 (show (bs T)[k]? = some b by rw [bs_get]; exact hb)
        have HBE := Lib.hid (gap_eq b)
        have HEX := Lib.hid (show (bs T).extract k (k + 1) = bs [b] by rw [bs_extract, hdrop]; simp)
        obtain ⟨n0, hn0⟩ : ∃ n : Nat, n = b.toNat := ⟨_, rfl⟩
        rw [← hn0] at hidx HBE
        clear hn0 hb hdrop
        cases hg : gap b with
        | true =>
          have HG := Lib.hid hg
          have hbe := HBE.out
          rw [hg] at hbe
          have HOR := Lib.hid hbe.symm
          clear HBE hg hbe
          have hlpos : 0 < l.length := by omega
          have hml : cn % l.length < l.length := Nat.mod_lt _ hlpos
          obtain ⟨bb, off, rfl, hcell⟩ := HAT.out (by simpa using hlpos)
          have hcl := HC2.out.cellSome (hcell (cn % l.length) (.int .i64 l[cn % l.length]) (by simp [hml])) (by simp)
          have hrem : (cn : Int).tmod (l.length : Int) = ((cn % l.length : Nat) : Int) := by rw [Int.ofNat_tmod]
          have HPK := Lib.hid (pick_any l[cn % l.length] w2)
          clear hcell
          cases h1 : ((n0 : Int) == 32) with
          | true =>
            go_wp2_with fail
            refine HPK.out.mono ?_; rintro _ _ ⟨r, hr, rfl, hw⟩; have hw := hw.symm; subst hw
            obtain ⟨g, hgi, hg0, hgg, hgl⟩ := four Tryd.prog 35 (by
              intro r v hv w
              match r, hv with
              | 0, hv => cases hv; rfl
              | 1, hv => cases hv; rfl
              | 2, hv => cases hv; rfl
              | 3, hv => cases hv; rfl) r hr
            have HGG := Lib.hid hgg; have HG0 := Lib.hid hg0
            clear hgg hg0
            go_wp2_with fail
            refine ⟨⟨k + 1, cn + 1, u ++ g, congrArg Value.string (bs_append u g).symm, by go_num, by go_num, by first | rfl | trivial, by omega, by omega, by simp; omega, fun v' hv => ?_⟩, by simp [intOf]; omega⟩
            rw [List.append_assoc]
            refine HSP.out (g ++ v') ?_
            rw [HD.out]
            exact .gap HG.out HG0.out HGG.out hv
          | false =>
            have h2 : ((n0 : Int) == 10) = true := by have := HOR.out; rw [h1] at this; simpa using this
            go_wp2_with fail
            refine HPK.out.mono ?_; rintro _ _ ⟨r, hr, rfl, hw⟩; have hw := hw.symm; subst hw
            obtain ⟨g, hgi, hg0, hgg, hgl⟩ := four Tryd.prog 35 (by
              intro r v hv w
              match r, hv with
              | 0, hv => cases hv; rfl
              | 1, hv => cases hv; rfl
              | 2, hv => cases hv; rfl
              | 3, hv => cases hv; rfl) r hr
            have HGG := Lib.hid hgg; have HG0 := Lib.hid hg0
            clear hgg hg0
            go_wp2_with fail
            refine ⟨⟨k + 1, cn + 1, u ++ g, congrArg Value.string (bs_append u g).symm, by go_num, by go_num, by first | rfl | trivial, by omega, by omega, by simp; omega, fun v' hv => ?_⟩, by simp [intOf]; omega⟩
            rw [List.append_assoc]
            refine HSP.out (g ++ v') ?_
            rw [HD.out]
            exact .gap HG.out HG0.out HGG.out hv
        | false =>
          have hbe := HBE.out
          rw [hg] at hbe
          obtain ⟨h1, h2⟩ := Bool.or_eq_false_iff.1 hbe.symm
          have HG := Lib.hid hg
          clear hbe HBE hg
          have hext : Value.string (bs u ++ (bs T).extract k (k + 1)) = str (u ++ [b]) := by rw [HEX.out, ← bs_append]
          have HXT := Lib.hid hext
          clear hext
          go_wp2_with fail
          refine ⟨⟨k + 1, cn, u ++ [b], HXT.out, rfl, by go_num, by first | rfl | trivial, by omega, by omega, by simp; omega, fun v' hv => ?_⟩, by simp [intOf]; omega⟩
          rw [List.append_assoc]
          refine HSP.out ([b] ++ v') ?_
          rw [HD.out]
          exact .byte HG.out hv
      · have hke : k = T.length := by omega
        have hu := HSP.out [] (by rw [hke, List.drop_length]; exact .nil)
        rw [List.append_nil, HT.out] at hu
        obtain ⟨m', hm', ht', j1, j2, j3⟩ := HBK.out u hu
        clear j1 j2 j3
        obtain ⟨hwf', _⟩ := parse_le hm'
        rw [← HT.out] at ht'
        have hP := parse_any u (by omega) w2 B (HL.out.kept HC2.out (by simp))
        rw [hm'] at hP
        have HP2 := Lib.hid hP
        have HT' := Lib.hid ht'; have HWF' := Lib.hid hwf'
        clear hP hm' ht' hwf' hu
        go_wp2_with fail
        refine HP2.out.mono ?_; rintro _ w3 ⟨hc3, v, rfl, hmod⟩
        have HC3 := Lib.hid hc3
        clear hc3
        obtain ⟨vid, vvd, vpd, vbd, rfl, hni, hgv, hpv, hsb⟩ := hmod
        obtain ⟨aid, cid, rfl, hi1, hi2⟩ := hni
        obtain ⟨avd, cvd, rfl, hv1, hv2⟩ := hgv
        obtain ⟨apd, cpd, psd, rfl, hp1, hp2, hp3⟩ := hpv
        obtain ⟨abd, cbd, bsd, rfl, hb1, hb2, hb3⟩ := hsb
        have HMd := Lib.hid (show ModAt w3 (New w2 w3) m' (.agg #[str m'.name, .slice aid m'.imports.length cid, .slice avd m'.vars.length cvd, .slice apd m'.procs.length cpd, .slice abd m'.body.len cbd]) from ⟨_, _, _, _, rfl, ⟨_, _, rfl, hi1, hi2⟩, ⟨_, _, rfl, hv1, hv2⟩, ⟨_, _, _, rfl, hp1, hp2, hp3⟩, ⟨_, _, _, rfl, hb1, hb2, hb3⟩⟩)
        clear hi1 hi2 hv1 hv2 hp1 hp2 hp3 hb1 hb2 hb3
        have hz := Blk.new w3 #[str [], nils, nils, nils, nils] 29
        obtain ⟨wC, hwC⟩ : ∃ w', w3.alloc (.cells #[str [], nils, nils, nils, nils] 29) = w' := ⟨_, rfl⟩
        rw [hwC] at hz
        have hcA : Chg [] w3 wC := by rw [← hwC]; exact (Chg.refl _ _).alloc _
        obtain ⟨wG, hwG, hcF, hbF⟩ := set5 (str m'.name) (.slice aid m'.imports.length cid) (.slice avd m'.vars.length cvd) (.slice apd m'.procs.length cpd) (.slice abd m'.body.len cbd) hz
        have HCd := Lib.hid (show Chg [] w3 wG from hcA.trans hcF (fun x hx => .inr (by simp at hx; omega)))
        have z0 := hz.cell 0 _ rfl; have z1 := hz.cell 1 _ rfl; have z2 := hz.cell 2 _ rfl; have z3 := hz.cell 3 _ rfl; have z4 := hz.cell 4 _ rfl
        have y0 := hz.frozen 0; have y1 := hz.frozen 1; have y2 := hz.frozen 2; have y3 := hz.frozen 3; have y4 := hz.frozen 4
        have HBd := Lib.hid hbF
        have xd0 := hbF.cell 0 _ rfl; have xd1 := hbF.cell 1 _ rfl; have xd2 := hbF.cell 2 _ rfl; have xd3 := hbF.cell 3 _ rfl; have xd4 := hbF.cell 4 _ rfl
        clear hcA hcF hbF hz
        have hpr := print_any m' HWF'.out (New w2 w3) _ wG B (((HL.out.kept HC2.out (by simp)).kept HC3.out (by simp)).kept HCd.out (by simp)) (fun x hx => Nat.lt_of_lt_of_le hx.2 HCd.out.size) (HMd.out.kept HCd.out (by simp)) (by rw [HT'.out]; omega)
        rw [HT'.out] at hpr
        have HPR2 := Lib.hid hpr
        clear hpr
        go_wp2_with fail
        refine HPR2.out.mono ?_; rintro _ w4 ⟨rfl, hc4⟩
        have HC4 := Lib.hid hc4
        clear hc4
        clear hwC hwG z0 z1 z2 z3 z4 y0 y1 y2 y3 y4
        clear xd0 xd1 xd2 xd3 xd4
        go_wp2_with fail
        go_ret
        exact ⟨rfl, ((HC2.out.then HC3.out).then HCd.out).then HC4.out⟩
end Go.Proofs.YtdlhjcnmpcligaaDoor
