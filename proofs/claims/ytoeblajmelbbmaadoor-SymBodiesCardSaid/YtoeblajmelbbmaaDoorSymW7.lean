/- The fact on what others see. -/
import Derived.Test.YtoeblajmelbbmaaDoorSymW6
namespace Go.Mq.Sym
open Go Go.RowKit Go.Mq Go.Mq.Tree
theorem mod_parts {w : World} {F : Nat → Prop} {m : Mod} {v : Value} (h : ModAt w F m v) : ∃ (ai : Option Addr) (ci : Nat) (av : Option Addr) (cv : Nat) (ap : Option Addr) (cp : Nat) (ab : Option Addr) (cb : Nat), v = .agg #[str m.name, .slice ai m.imports.length ci, .slice av m.vars.length cv, .slice ap m.procs.length cp, .slice ab m.body.len cb] ∧ GlobsAt w F m.vars (.slice av m.vars.length cv) ∧ ProcsL w F m.procs (.slice ap m.procs.length cp) := by
  obtain ⟨vi, vv, vp, vb, rfl, ⟨ai, ci, rfl, _⟩, ⟨av, cv, rfl, h1, h2⟩, hp, ⟨ab, cb, _, rfl, _⟩⟩ := h
  have hp' := procsL_of hp
  obtain ⟨ap, cp, cs, rfl, h3, h4, h5⟩ := hp'
  exact ⟨ai, ci, av, cv, ap, cp, ab, cb, rfl, ⟨av, cv, rfl, h1, h2⟩, ⟨ap, cp, cs, rfl, h3, h4, h5⟩⟩
end Go.Mq.Sym
namespace Go.Proofs.YtoeblajmelbbmaaDoor
open Go Go.RowKit Go.Mq Go.Mq.Tree Go.Mq.Sym
set_option maxRecDepth 100000
set_option maxHeartbeats 4000000
theorem seen_any (w : World) (B : Nat) (hL : Laid w B) : Calls Tryd.prog 5 #[] w (Holds w) := by
  obtain ⟨m, hm, ht, hn⟩ := seen_at
  obtain ⟨hwf, _⟩ := parse_sp hm
  have hP := parse_any [109, 111, 100, 117, 108, 101, 32, 109, 59, 32, 118, 97, 114, 32, 121, 42, 58, 32, 105, 110, 116, 59, 32, 118, 97, 114, 32, 120, 58, 32, 105, 110, 116, 59, 32, 112, 114, 111, 99, 32, 102, 42, 40, 97, 44, 32, 98, 41, 59, 32, 98, 101, 103, 105, 110, 32, 101, 110, 100, 59, 32, 98, 101, 103, 105, 110, 32, 101, 110, 100, 46] (by decide) w B hL
  rw [hm] at hP
  have HP := Lib.hid hP
  have HT := Lib.hid ht; have HN := Lib.hid hn; have HWF := Lib.hid hwf; have HL := Lib.hid hL
  clear hP hm ht hn hwf hL
  go_enter Tryd.func5, Tryd.ntmps5
  go_wp2_with fail
  refine HP.out.mono ?_; rintro _ w1 ⟨hc1, v, rfl, hmod⟩
  have HC1 := Lib.hid hc1; clear hc1
  obtain ⟨via, vva, vpa, vba, rfl, hni, hgv, hpv, hsb⟩ := hmod
  obtain ⟨aia, cia, rfl, hi1, hi2⟩ := hni
  obtain ⟨ava, cva, rfl, hv1, hv2⟩ := hgv
  obtain ⟨apa, cpa, psa, rfl, hp1, hp2, hp3⟩ := hpv
  obtain ⟨aba, cba, bsa, rfl, hb1, hb2, hb3⟩ := hsb
  have HMa := Lib.hid (show ModAt w1 (New w w1) m (.agg #[str m.name, .slice aia m.imports.length cia, .slice ava m.vars.length cva, .slice apa m.procs.length cpa, .slice aba m.body.len cba]) from ⟨_, _, _, _, rfl, ⟨_, _, rfl, hi1, hi2⟩, ⟨_, _, rfl, hv1, hv2⟩, ⟨_, _, _, rfl, hp1, hp2, hp3⟩, ⟨_, _, _, rfl, hb1, hb2, hb3⟩⟩)
  clear hi1 hi2 hv1 hv2 hp1 hp2 hp3 hb1 hb2 hb3
  have hz := Blk.new w1 #[str [], nils, nils, nils, nils] 28
  obtain ⟨wA, hwA⟩ : ∃ w', w1.alloc (.cells #[str [], nils, nils, nils, nils] 28) = w' := ⟨_, rfl⟩
  rw [hwA] at hz
  have hcA : Chg [] w1 wA := by rw [← hwA]; exact (Chg.refl _ _).alloc _
  obtain ⟨wF, hwF, hcF, hbF⟩ := set5 (str m.name) (.slice aia m.imports.length cia) (.slice ava m.vars.length cva) (.slice apa m.procs.length cpa) (.slice aba m.body.len cba) hz
  have HCa := Lib.hid (show Chg [] w1 wF from hcA.trans hcF (fun x hx => .inr (by simp at hx; omega)))
  have z0 := hz.cell 0 _ rfl; have z1 := hz.cell 1 _ rfl; have z2 := hz.cell 2 _ rfl; have z3 := hz.cell 3 _ rfl; have z4 := hz.cell 4 _ rfl
  have y0 := hz.frozen 0; have y1 := hz.frozen 1; have y2 := hz.frozen 2; have y3 := hz.frozen 3; have y4 := hz.frozen 4
  have HBa := Lib.hid hbF
  have xa0 := hbF.cell 0 _ rfl; have xa1 := hbF.cell 1 _ rfl; have xa2 := hbF.cell 2 _ rfl; have xa3 := hbF.cell 3 _ rfl; have xa4 := hbF.cell 4 _ rfl
  clear hcA hcF hbF hz
  obtain ⟨_, _, _, _, _, _, _, _, he, hgv, hpv⟩ := mod_parts (HMa.out.kept HCa.out (by simp))
  cases he
  have hof := of_any m.vars m.procs HWF.out.fewv HWF.out.fewp (New w w1) m.name aia m.imports.length cia aba m.body.len cba _ _ wF hgv hpv
  have HOF := Lib.hid hof
  clear hof hgv hpv
  go_wp2_with fail
  refine HOF.out.mono ?_; rintro _ w2 ⟨sv, rfl, hsy, hc2⟩
  have HC2 := Lib.hid ((HC1.out.then HCa.out).then hc2)
  have HSY := Lib.hid hsy
  obtain ⟨sa, sc, hsv, _⟩ := hsy
  subst hsv
  have HFIT := Lib.hid (seenL_fit HWF.out.vars HWF.out.procs)
  have HLEN := Lib.hid (seenL_len HWF.out.fewv HWF.out.fewp)
  have hpr := sprint_any (insSort (seenL m.vars m.procs)) HFIT.out (by have := HLEN.out; omega) (New wF w2) _ w2 B (HL.out.kept HC2.out (by simp)) (fun x hx => hx.2) HSY.out
  have e := HT.out
  rw [ofM] at e
  rw [e] at hpr
  have HPR := Lib.hid hpr
  clear hpr hc2 e hwA hwF z0 z1 z2 z3 z4 y0 y1 y2 y3 y4 xa0 xa1 xa2 xa3 xa4
  go_wp2_with fail
  refine HPR.out.mono ?_; rintro _ w3 ⟨rfl, hc3⟩
  have hs3 := HSY.out.kept hc3 (by simp)
  have HC3 := Lib.hid (HC2.out.then hc3)
  have hb4 := Blk.new w3 #[str [102], str [120]] 9
  have hc4 : Chg [] w3 (w3.alloc (.cells #[str [102], str [120]] 9)) := (Chg.refl _ _).alloc _
  have hnm : NamesAt (w3.alloc (.cells #[str [102], str [120]] 9)) (fun _ => True) [[102], [120]] (.slice (some ⟨w3.heap.size, 0, none⟩) 2 2) := by
    refine ⟨_, 2, rfl, by simp, fun _ => ⟨w3.heap.size, 0, rfl, fun i x hx => ?_⟩, fun _ _ _ => trivial⟩
    match i, hx with
    | 0, hx => cases hx; exact hb4.cell 0 _ rfl
    | 1, hx => cases hx; exact hb4.cell 1 _ rfl
  have hnd := needs_any (insSort (seenL m.vars m.procs)) HFIT.out (by have := HLEN.out; omega) [[102], [120]] (by simp) (by decide) (New wF w2) (fun _ => True) _ _ (w3.alloc (.cells #[str [102], str [120]] 9)) B ((HL.out.kept HC3.out (by simp)).kept hc4 (by simp)) (hs3.kept hc4 (by simp)) hnm
  have e := HN.out
  rw [ofM] at e
  rw [e] at hnd
  have HND := Lib.hid hnd
  have HC4 := Lib.hid (HC3.out.then hc4)
  clear hc3 hs3 hb4 hc4 hnm hnd e
  go_wp2_with fail
  refine HND.out.mono ?_; rintro _ w5 ⟨rfl, hc5⟩
  have HC5 := Lib.hid (HC4.out.then hc5); clear hc5
  have h1 := sum_any [] (by simp) w5
  have h2 := sum_any [97] (by simp) w5
  rw [sum_facts.1] at h1
  rw [sum_facts.2] at h2
  have H1 := Lib.hid h1; have H2 := Lib.hid h2
  clear h1 h2
  go_wp2_with fail
  refine H1.out.mono ?_; rintro _ _ ⟨rfl, hw⟩; have hw := hw.symm; subst hw
  go_wp2_with fail
  refine H2.out.mono ?_; rintro _ _ ⟨rfl, hw⟩; have hw := hw.symm; subst hw
  go_wp2_with fail
  go_ret
  exact ⟨rfl, HC5.out⟩
end Go.Proofs.YtoeblajmelbbmaaDoor
