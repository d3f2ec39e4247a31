/- PlanStale. -/
import Derived.Test.YtgnfhognbpifiaaGreatDoorStaleSort
import Derived.Test.YtgnfhognbpifiaaGreatDoorPlanRange
import Derived.Test.YtgnfhognbpifiaaGreatDoorPlanW4
import Derived.Test.YtgnfhognbpifiaaGreatDoorPlanW5
import Derived.Test.YtgnfhognbpifiaaGreatDoorApiTell
namespace Go.Proofs.YtgnfhognbpifiaaGreatDoor
open Go Go.RowKit Go.Mq Go.Mq.Tree Go.Mq.Plan
set_option maxRecDepth 100000
set_option maxHeartbeats 8000000
theorem planStale_any (hord : ∀ (w : World) (B : Nat), Laid w B → ErrLaid w → Calls Tryz.prog 6 #[] w (Holds w))
    (l : List (List UInt8)) (hn63 : l.length ≤ 9223372036854775807) (hz : ∀ n ∈ l, n.length ≤ 9223372036854775807) (kk : Int) (F : Nat → Prop) (a : Option Addr) (c : Nat) (w : World) (B : Nat) (hL : Laid w B) (hg : ErrLaid w) (hF : ∀ x, F x → x < w.heap.size) (h : NamesAt w F l (.slice a l.length c)) :
    Calls Tryz.prog 4 #[.slice a l.length c, .int .i64 kk] w (Holds w) := by
  have HSH := Lib.hid (short_any l hn63 hz F a c w h)
  have HL := Lib.hid hL; have HG := Lib.hid hg; have HFB := Lib.hid hF; have HN := Lib.hid h; have HORD := Lib.hid hord
  clear hL hg hF h hz hord
  go_enter Tryz.func4, Tryz.ntmps4
  go_wp2_with fail
  refine HSH.out.mono ?_; rintro _ w1 ⟨q, rfl, hq, hc1⟩
  have HQ := Lib.hid hq; have HC1 := Lib.hid hc1
  clear hq hc1 hn63
  cases q with
  | false =>
    go_wp2_with fail
    go_ret
    exact ⟨rfl, HC1.out⟩
  | true =>
    obtain ⟨hf5, hf9⟩ := HQ.out rfl
    have HF9 := Lib.hid hf9
    clear hf9
    have HCK := Lib.hid (HORD.out w1 B (HL.out.kept HC1.out (by simp)) (HG.out.kept HC1.out (by simp)))
    go_wp2_with fail
    refine HCK.out.mono ?_; rintro _ w2 ⟨rfl, hc2⟩
    have HC2 := Lib.hid (HC1.out.then hc2)
    clear hc2
    have HMO := Lib.hid (modules_any l hf5 HF9.out F a c w2 B (HL.out.kept HC2.out (by simp)) (fun x hx => by have := HFB.out x hx; have := HC2.out.size; omega) (HN.out.kept HC2.out (by simp)))
    go_wp2_with fail
    refine HMO.out.mono ?_; rintro _ w3 ⟨rfl, ⟨es, hmods, hes5⟩, hc3⟩
    have HGD := Lib.hid (all_good l HF9.out)
    obtain ⟨b, hb⟩ : ∃ b, b = w2.heap.size := ⟨_, rfl⟩
    rw [← hb] at hmods ⊢
    obtain ⟨mf, hmfd⟩ : ∃ f, f = modsF l := ⟨_, rfl⟩
    rw [← hmfd] at hmods HGD
    have HB := Lib.hid hb
    have HL3 := Lib.hid (HL.out.kept (HC2.out.then hc3) (by simp))
    have HC3 := Lib.hid (HC2.out.then hc3)
    have hbl : b < w3.heap.size := hmods.1.lt
    have HM3 := Lib.hid hmods
    have HS0 := Lib.hid (stale_run b (some b) (fun x => b < x ∧ x < w3.heap.size) (fun _ => False) mf mf es [] nils HGD.out HGD.out (by simp) w3 B HL3.out (fun x hx => hx.2) hmods (.inr ⟨b, es, rfl, hmods⟩) NamesAt.nil)
    clear hb hmfd hmods hc3
    go_wp2_with fail
    refine HS0.out.mono ?_; rintro _ w4 ⟨hc4, nm0, v0, hnm0, rfl, hv0⟩
    rw [stale_none] at hv0
    obtain ⟨a0, c0, rfl, _, _⟩ := hv0
    have HC4 := Lib.hid hc4
    have HKN := Lib.hid (keys_nodup HM3.out.1)
    have hes := HM3.out.2.1
    have HES := Lib.hid hes
    clear hc4 hnm0 hes
    obtain ⟨wA, hwA⟩ : ∃ x, w4.alloc (.cells #[] 9) = x := ⟨_, rfl⟩
    have hown0 : wA.ownsRow w4.heap.size 9 1 (.slice (some ⟨w4.heap.size, 0, none⟩) 0 0) 0 [] := by
      rw [← hwA]
      exact ⟨rfl, .inr ⟨w4.heap.size, 0, #[], rfl, Nat.le_refl _, heap_alloc_new _ _, Nat.le_refl _, Nat.zero_le _, rfl, rfl⟩⟩
    have hcA : Chg [] w4 wA := by rw [← hwA]; exact (Chg.refl _ _).alloc _
    have hsA : wA.heap.size = w4.heap.size + 1 := by rw [← hwA]; simp
    have hs34 := HC4.out.size
    obtain ⟨w5, hrg, hri, hc5, hs5⟩ := map_range (P := Tryz.prog) Tryz.underlying25 ((HM3.out.kept (HC4.out.then hcA) (by simp) (by simp)).1)
    have HO5 := Lib.hid (owns_kept (own_low hown0) hc5 (fun _ _ h => by cases h))
    have HRI := Lib.hid hri; have HC5 := Lib.hid (hcA.then hc5)
    have HM5 := Lib.hid (HM3.out.kept (HC4.out.then (hcA.then hc5)) (by simp) (by simp))
    clear hown0 hcA hri hc5
    go_wp2_with fail
    clear hwA hrg
    obtain ⟨r, hr⟩ : ∃ r, r = w4.heap.size + 1 := ⟨_, rfl⟩
    rw [hsA, ← hr] at HRI hs5
    rw [← hr] at hsA ⊢
    have HRR := Lib.hid hr
    clear hr
    go_loopw [6] (fun ov wr => ∃ rest o, Ranging wr b r es rest ∧ wr.ownsRow 0 9 1 ov o.length (o.map str) ∧ From w4.heap.size ov ∧ (∀ g ∈ blk ov, g ≠ r) ∧ (o ++ rest).Perm (es.map (·.1)) ∧ Chg [] w4 wr) (fun _ wr => wr.rangeLeft b r)
    case atStart => exact ⟨_, [], HRI.out, HO5.out, fun g hg => by simp [blk] at hg; omega, fun g hg => by have := HRR.out; simp [blk] at hg; omega, List.Perm.refl _, HC5.out⟩
    case round =>
      obtain ⟨rest, o, hri, hov, hfo, hfr, hpm, hc⟩ := hrel
      obtain ⟨oa, oc, rfl⟩ := slice_of_owns (own_low hov)
      have HOV := Lib.hid hov; have HFO := Lib.hid hfo; have HFR := Lib.hid hfr; have HPM := Lib.hid hpm; have HC := Lib.hid hc
      have hol : o.length ≤ 1000 := by have := hpm.length_eq; simp at this; have := HES.out; omega
      clear hov hfo hfr hpm hc HRI HO5
      rcases map_next (P := Tryz.prog) hri (by have := HRR.out; omega) 0 with ⟨hnil, hnx⟩ | ⟨n, v, rest', wn, hn1, hn2, hn3, hn4, hn5, hnx, hri2, hcn, hent⟩
      · have hnx' := next_ty hnx
        subst hnil
        have HP := Lib.hid (show o.Perm (es.map (·.1)) by simpa using HPM.out)
        have HSO := Lib.hid (sort_owned HOV.out hol)
        clear hnx hri
        go_wp2_with fail
        refine HSO.out.mono ?_; rintro _ w6 ⟨rfl, hown6, hc6⟩
        obtain ⟨names, hnmd⟩ : ∃ ns : List Nm, ns = o.mergeSort fun x y => decide (x ≤ y) := ⟨_, rfl⟩
        rw [← hnmd] at hown6
        have HND := Lib.hid (show Named es names from ⟨o, HP.out, hnmd⟩)
        have hnl : names.length = o.length := by rw [hnmd]; exact (List.mergeSort_perm _ _).length_eq
        have hc46 : Chg [] w4 w6 := HC.out.trans hc6 (fun x hx => .inr (HFO.out x hx))
        have hrow : Row w6 (New w3 w6) oa (names.map str) ∧ o.length ≤ oc := by
          obtain ⟨a', c', he, hl, hrow⟩ := Row.of_owns (F := New w3 w6) (own_low hown6) (fun g hg => ⟨by have := HFO.out g hg; omega, owns_lt hown6 g hg⟩)
          cases he
          exact ⟨hrow, hl⟩
        have HROW := Lib.hid hrow.1
        have HNA := Lib.hid (show NamesAt w6 (New w3 w6) names (.slice oa o.length oc) from ⟨oa, oc, by rw [hnl], by rw [hnl]; exact hrow.2, hrow.1⟩)
        have HC46 := Lib.hid hc46
        have HNO := Lib.hid (show names.Nodup from HND.out.perm'.nodup_iff.2 HKN.out)
        clear hnx' hown6 hc6 hc46 hnmd hrow HSO
        cases hz0 : decide (o.length = 0) with
        | true =>
          have hz0' : o.length = 0 := of_decide_eq_true hz0
          have hz2 : ((o.length : Int) == 0) = true := by rw [hz0']; rfl
          clear hz0 hz0' hnl
          go_wp2_with fail
          go_ret
          exact ⟨rfl, (HC3.out.then HC4.out).then HC46.out⟩
        | false =>
          have hz1 : o.length ≠ 0 := of_decide_eq_false hz0
          have hz2 : ((o.length : Int) == 0) = false := by simpa using hz1
          have HPK := Lib.hid (fun w => pick_any kk o.length w (by omega) (by omega))
          have HNL := Lib.hid hnl
          clear hz0 hz1 hnl
          go_wp2_with fail
          refine (HPK.out _).mono ?_; rintro _ _ ⟨kr, hkr, rfl, hw⟩; have hw := hw.symm; subst hw
          obtain ⟨n, hn⟩ : ∃ n, names[kr]? = some n := ⟨names[kr]'(by rw [HNL.out]; exact hkr), List.getElem?_eq_getElem _⟩
          obtain ⟨bb, off, rfl, d0⟩ := names_cell HROW.out hn
          have HMEM := Lib.hid (List.mem_of_getElem? hn)
          clear hn
          go_wp2_with fail
          have hs46 := HC46.out.size
          obtain ⟨wB, hwB⟩ : ∃ x, w6.alloc (.cells #[str n] 9) = x := ⟨_, rfl⟩
          have hcB : Chg [] w6 wB := by rw [← hwB]; exact (Chg.refl _ _).alloc _
          have hone : ∀ w' : World, NamesAt (w'.alloc (.cells #[str n] 9)) (New w' (w'.alloc (.cells #[str n] 9))) [n] (.slice (some ⟨w'.heap.size, 0, none⟩) 1 1) := fun w' =>
            ⟨some ⟨w'.heap.size, 0, none⟩, 1, rfl, Nat.le_refl _, fun _ => ⟨w'.heap.size, 0, rfl, fun i x hx => by
              cases i with
              | zero => have := cell_new1 w' (str n) 9 0 x hx; rw [Addr.add] at this; exact this
              | succ i => simp at hx⟩, fun _ p hp => by cases hp; exact ⟨Nat.le_refl _, by simp⟩⟩
          have HONE := Lib.hid hone
          have hch1 := hone w6
          rw [hwB] at hch1
          have hcw3 : Chg [] w3 wB := (HC4.out.then HC46.out).then hcB
          have HS1 := Lib.hid (stale_run b (some b) (fun x => b < x ∧ x < w3.heap.size) _ mf mf es [n] _ HGD.out HGD.out (by simp) wB B (HL3.out.kept hcw3 (by simp)) (fun x hx => by have := hx.2; have := hcw3.size; omega) (HM3.out.kept hcw3 (by simp) (by simp)) (.inr ⟨b, es, rfl, HM3.out.kept hcw3 (by simp) (by simp)⟩) hch1)
          have HCB := Lib.hid hcw3; have HC6B := Lib.hid hcB
          clear hcB hch1 hcw3 hone
          rw [hwB]
          refine HS1.out.mono ?_; rintro _ w7 ⟨hc7, nm1, v1, hnm1, rfl, hv1⟩
          obtain rfl := named_unique hnm1 HND.out.perm
          rw [stale_one mf HNO.out HMEM.out] at hv1
          have HV1 := Lib.hid hv1
          obtain ⟨va1, vc1, rfl, _, _⟩ := hv1
          have HC7 := Lib.hid hc7
          clear hnm1 hc7 hwB d0
          go_wp2_with fail
          have hcC : Chg [] w7 (w7.alloc (.cells #[str n] 9)) := (Chg.refl _ _).alloc _
          refine (equal_same [n] (by simp) _ _ _ _ _ (HV1.out.kept hcC (by simp)) (HONE.out w7)).mono ?_; rintro _ w8 ⟨rfl, hc8⟩
          have HC8 := Lib.hid (HC7.out.then (hcC.then hc8))
          clear hcC hc8
          have hc68 := HC6B.out.then HC8.out
          have hcw8 : Chg [] w3 w8 := HCB.out.then HC8.out
          have HS2 := Lib.hid (stale_run b none (fun x => b < x ∧ x < w3.heap.size) _ (fun _ => none) mf es nm1 _ (fun _ _ h => by cases h) HGD.out (by have := HNL.out; omega) w8 B (HL3.out.kept hcw8 (by simp)) (fun x hx => by have := hx.2; have := hcw8.size; omega) (HM3.out.kept hcw8 (by simp) (by simp)) (.inl ⟨rfl, rfl⟩) (HNA.out.kept hc68 (by simp)))
          have HC68 := Lib.hid hc68
          clear hc68 hcw8
          go_wp2_with fail
          refine HS2.out.mono ?_; rintro _ w9 ⟨hc9, nm2, v2, hnm2, rfl, hv2⟩
          obtain rfl := named_unique hnm2 HND.out.perm
          rw [stale_all] at hv2
          have HV2 := Lib.hid hv2
          obtain ⟨va2, vc2, rfl, _, _⟩ := hv2
          have HC9 := Lib.hid hc9
          clear hnm2 hc9
          go_wp2_with fail
          refine (equal_same nm2 (by have := HNL.out; omega) _ _ _ _ _ HV2.out (HNA.out.kept (HC68.out.then HC9.out) (by simp))).mono ?_; rintro _ wE ⟨rfl, hcE⟩
          have HCE := Lib.hid (HC9.out.then hcE)
          clear hcE
          go_wp2_with fail
          go_ret
          exact ⟨rfl, ((((HC3.out.then HC4.out).then HC46.out).then HC68.out).then HCE.out)⟩
      · have hnx' := next_ty hnx
        have HRI2 := Lib.hid hri2; have HRL := Lib.hid hri.left_eq; have HN5 := Lib.hid hn5
        have hcc := HC.out.trans hcn (fun x hx => .inr (by have := HRR.out; simp at hx; omega))
        have HCC := Lib.hid hcc
        have HPM2 := Lib.hid (next_perm HKN.out HPM.out hn1 hn4 hn5)
        have HOV2 := Lib.hid (owns_kept HOV.out hcn (fun g hg => by simpa using HFR.out g hg))
        have hsr := hcc.size
        have hrn := hri2.lt
        have HO4 := Lib.hid (owns_kept HOV2.out ((Chg.refl [] wn).alloc (.cells #[str n] 9)) (by simp))
        clear hri hri2 hcn hcc hn1 hn2 hn3 hn4 hn5 hnx
        go_wp2_with (at_builtin; go_must (refine wpL_append rfl _ _ 22 rfl 9 _ 1 16 infoStrC Tryz.underlying22 rfl (by decide) _ o.length (o.map str) rfl HO4.out ⟨wn.heap.size, 0, none⟩ 1 1 [str n] rfl rfl (cell_new1 _ _ _) (by simp [Value.oneCell']) ?_ ?_ ?_))
        · omega
        · unfold maxLen; omega
        · intro v' w' hown' hch' hmv'
          have HO' := Lib.hid hown'; have HCH := Lib.hid hch'; have HMV := Lib.hid hmv'
          obtain ⟨va, vc, rfl⟩ := slice_of_owns (own_low hown')
          clear hown' hch' hmv'
          go_wp2_with fail
          have hca : Chg [] wn (wn.alloc (.cells #[str n] 9)) := (Chg.refl [] wn).alloc _
          have hrx := (HRI2.out.kept hca (by simp) (by simp)).kept HCH.out (HFO.out.notin (by omega)) (fun hm => HFR.out r hm rfl)
          refine ⟨⟨rest', o ++ [n], hrx, by rw [List.map_append, List.length_append]; exact HO'.out, fun g hg => ?_, fun g hg => ?_, HPM2.out, ?_⟩, ?_⟩
          · rcases HMV.out g hg with h | h
            · exact HFO.out g h
            · simp at h; omega
          · rcases HMV.out g hg with h | h
            · exact HFR.out g h
            · simp at h; omega
          · exact (HCC.out.then hca).trans HCH.out (fun x hx => .inr (HFO.out x hx))
          · rw [hrx.left_eq, HRL.out]
            exact HN5.out
end Go.Proofs.YtgnfhognbpifiaaGreatDoor
