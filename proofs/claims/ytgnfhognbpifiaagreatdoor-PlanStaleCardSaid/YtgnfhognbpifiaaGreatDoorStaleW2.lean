/- plan.Stale. -/
import Derived.Test.YtgnfhognbpifiaaGreatDoorStaleW1
import Derived.Test.YtgnfhognbpifiaaGreatDoorPlanW3
namespace Go.Mq.Plan
open Go Go.RowKit Go.Mq Go.Mq.Tree Go.Mq.Sym Go.Mq.Used
/-- One must be built anew. -/
def anew (mfw mf : Nm → Option Mod) (ch : List Nm) (n : Nm) : Bool := decide (n ∈ ch) || (impOf mf n).any (staleP mfw mf ch n)
def StaleOut (w : World) (mfw mf : Nm → Option Mod) (es : List (List UInt8 × Value)) (ch : List Nm) (e : Ending) (w' : World) : Prop :=
  Chg [] w w' ∧ ∃ names v, Named es names ∧ e = .returned v ∧ NamesAt w' (New w w') (names.filter (anew mfw mf ch)) v
theorem filter_take {α : Type} (q : α → Bool) {l : List α} {k : Nat} {x : α} (h : l[k]? = some x) : (l.take (k + 1)).filter q = (l.take k).filter q ++ (if q x then [x] else []) := by
  have hk := (List.getElem?_eq_some_iff.1 h).1
  rw [List.take_add_one, h, List.filter_append]
  cases hq : q x <;> simp [hq]
end Go.Mq.Plan
namespace Go.Proofs.YtgnfhognbpifiaaGreatDoor
open Go Go.RowKit Go.Mq Go.Mq.Tree Go.Mq.Sym Go.Mq.Used Go.Mq.Plan
set_option maxRecDepth 100000
set_option maxHeartbeats 4000000
theorem stale_run (b : Nat) (ob : Option Nat) (G Fc : Nat → Prop) (mfw mf : Nm → Option Mod) (es : List (List UInt8 × Value)) (ch : List Nm) (cv : Value) (hgw : AllGood mfw) (hgn : AllGood mf) (hfew : ch.length ≤ 1000) (w : World) (B : Nat) (hL : Laid w B) (hG : ∀ x, G x → x < w.heap.size) (h : ModsAt w b G mf es) (hwas : WasAt w G mfw ob) (hch : NamesAt w Fc ch cv) :
    Calls Tryz.prog 14 #[.map ob, .map (some b), cv] w (StaleOut w mfw mf es ch) := by
  have hmf : ∀ (fn : Fn) (first cap : Array Value) (w : World), (Instr.makeFunc fn first cap).run Tryz.prog w = .ok (.func fn first cap) w := fun _ _ _ _ => rfl
  have hfi := field_imports
  obtain ⟨ca, cc, rfl, hcc, hcrow⟩ := hch
  obtain ⟨wa, hwa⟩ : ∃ x, w.alloc (.cells #[.map ob] 25) = x := ⟨_, rfl⟩
  have hba := Blk.new w #[.map ob] 25
  rw [hwa] at hba
  have hca : Chg [] w wa := by rw [← hwa]; exact (Chg.refl _ _).alloc _
  have hsa : wa.heap.size = w.heap.size + 1 := by rw [← hwa]; simp
  obtain ⟨wb, hwb⟩ : ∃ x, wa.alloc (.cells #[.map (some b)] 25) = x := ⟨_, rfl⟩
  have hbb := Blk.new wa #[.map (some b)] 25
  rw [hwb] at hbb
  have hcb : Chg [] wa wb := by rw [← hwb]; exact (Chg.refl _ _).alloc _
  have hsb : wb.heap.size = w.heap.size + 2 := by rw [← hwb]; simp [hsa]
  obtain ⟨wc, hwc⟩ : ∃ x, wb.alloc (.cells #[.slice ca ch.length cc] 22) = x := ⟨_, rfl⟩
  have hbc := Blk.new wb #[.slice ca ch.length cc] 22
  rw [hwc] at hbc
  have hcc' : Chg [] wb wc := by rw [← hwc]; exact (Chg.refl _ _).alloc _
  have hsc : wc.heap.size = w.heap.size + 3 := by rw [← hwc]; simp [hsb]
  have hcab := (hca.then hcb).then hcc'
  obtain ⟨D, hown, hsz, hkeys⟩ := mapIs_owns (P := Tryz.prog) Tryz.underlying9 (h.kept hcab (by simp) (by simp)).1 h.2.1 h.2.2.1
  have HK := Lib.hid (keys_any (some b) wc)
  have HS := Lib.hid (sorted_any b es.length D anyR wc hown (by rw [hsz]; have := h.2.1; unfold maxLen; omega) (by rw [hsz]; have := h.2.1; omega))
  rw [hsc] at HS
  have HM := Lib.hid (h.kept hcab (by simp) (by simp)); have HBA := Lib.hid (hba.kept (hcb.then hcc') (by simp)); have HBB := Lib.hid (hbb.kept hcc' (by simp)); have HBC := Lib.hid hbc; have HC := Lib.hid hcab
  have HWAS := Lib.hid (hwas.kept hcab); have HCR0 := Lib.hid (hcrow.kept hcab (by simp)); have HL := Lib.hid (hL.kept hcab (by simp)); have HGB := Lib.hid (fun x hx => (show x < w.heap.size from hG x hx))
  have hes := h.2.1
  have HKE := Lib.hid hkeys
  rw [hsa] at HBB
  rw [hsb] at HBC
  have a1 := HBB.out.cell 0 _ rfl
  clear hG h hwas hcrow hL hba hca hbb hcb hbc hcc' hcab hown hsz hkeys
  go_enter Tryz.func14, Tryz.ntmps14
  go_wp2_with fail
  clear hwa hwb hwc
  refine HK.out.mono ?_; rintro _ w1 ⟨rfl, hw1⟩
  go_wp2_with fail
  refine HS.out.mono ?_; rintro _ w2 ⟨nv, ss, rfl, hpm, hnr, _, hbl⟩
  have hc2 : Chg [] wc w2 := ((Chg.refl [] wc).alloc _).then (Chg.of_below hbl)
  obtain ⟨names, hnm⟩ : ∃ ns : List Nm, ns = ss.mergeSort fun x y => decide (x ≤ y) := ⟨_, rfl⟩
  rw [← hnm] at hnr
  have hnl : ss.length = names.length := by rw [hnm]; exact ((List.mergeSort_perm _ _).length_eq).symm
  rw [hnl] at hnr
  have HND := Lib.hid (show Named es names from ⟨ss, hpm.trans HKE.out, hnm⟩)
  have hnl2 : names.length ≤ 1000 := by have := HND.out.perm'.length_eq; simp at this; omega
  obtain ⟨na, nc, rfl, hnc, hnrow⟩ := Row.of_owns (F := fun g => w.heap.size + 3 < g) (show w2.ownsRow 0 9 1 nv names.length (names.map str) from ⟨hnr.1, by
    rcases hnr.2 with h | ⟨g, cap, cur, h1, _, h3⟩
    · exact .inl h
    · exact .inr ⟨g, cap, cur, h1, Nat.zero_le _, h3⟩⟩) (fun g hg => by
    rcases hnr.2 with ⟨h, _⟩ | ⟨g', cap, cur, h1, h2, _⟩
    · subst h; cases hg
    · subst h1; simp [blk] at hg; subst hg; simp at h2; omega)
  have HNR := Lib.hid hnrow; have HC2 := Lib.hid hc2
  have hs2 := hc2.size
  clear hpm hnr hnm hnl hnrow hc2 hbl hw1 a1
  go_wp2_with fail
  have HSC := Lib.hid hsc
  clear hsa hsb hsc
  go_loopw [7, 9, 14] (fun ov _ i wr => ∃ (k : Nat) (o : List Nm), i = .int .i64 k ∧ k ≤ names.length ∧ wr.ownsRow 0 9 1 ov o.length (o.map str) ∧ From w2.heap.size ov ∧ o = (names.take k).filter (anew mfw mf ch) ∧ Chg [] w2 wr) (fun _ _ i _ => names.length - (intOf i).toNat)
  case atStart => exact ⟨0, [], rfl, Nat.zero_le _, World.ownsRow_nil _ _ _ _, From.nil _, rfl, Chg.refl _ _⟩
  case round =>
    obtain ⟨k, o, rfl, hk, hov, hfo, ho, hc⟩ := hrel
    obtain ⟨oa, oc, rfl⟩ := slice_of_owns hov
    have HOV := Lib.hid hov; have HFO := Lib.hid hfo; have HO := Lib.hid ho; have HCR := Lib.hid hc
    have hsr := hc.size
    clear hov hfo ho
    by_cases hlt : k < names.length
    · obtain ⟨n, hn⟩ : ∃ n, names[k]? = some n := ⟨names[k], List.getElem?_eq_getElem hlt⟩
      have hol : o.length ≤ 1000 := by rw [HO.out]; exact Nat.le_trans (List.length_filter_le _ _) (by rw [List.length_take]; omega)
      obtain ⟨nb, no, rfl, d0⟩ := names_cell (HNR.out.kept hc (by simp)) hn
      have HFT := Lib.hid (filter_take (anew mfw mf ch) hn)
      have hbx := Blk.new wr #[str n] 9
      obtain ⟨wx, hwx⟩ : ∃ x, wr.alloc (.cells #[str n] 9) = x := ⟨_, rfl⟩
      rw [hwx] at hbx
      have hcx : Chg [] wr wx := by rw [← hwx]; exact (Chg.refl _ _).alloc _
      have hcx2 : Chg [] wc wx := (HC2.out.then hc).then hcx
      have x0 := hbx.cell 0 _ rfl
      have t0 := (HBA.out.kept hcx2 (by simp)).cell 0 _ rfl; have t1 := (HBB.out.kept hcx2 (by simp)).cell 0 _ rfl; have t2 := (HBC.out.kept hcx2 (by simp)).cell 0 _ rfl
      have hcrow := HCR0.out.kept hcx2 (by simp)
      have hmods := HM.out.kept hcx2 (by simp) (by simp)
      have hsa : StaleAt wx (w.heap.size + 2) (w.heap.size + 1) wr.heap.size w.heap.size b ob G Fc mfw mf es ch n := ⟨⟨_, t2, _, _, rfl, hcc, hcrow⟩, t1, x0, t0, hmods, HWAS.out.kept hcx2, hfew⟩
      have HCT := Lib.hid (contains_in ch hfew n Fc _ wx ⟨_, _, rfl, hcc, hcrow⟩)
      obtain ⟨nm, ai, ci, av, nv, cv, ap, np, cp, ab, nb', cb, hlk, _, hni⟩ := look_mod hmods n
      have hlk := hlk wx (Chg.refl _ _)
      have hsx := hcx2.size
      have HAN := Lib.hid (stale_contains (impOf mf n) (impOf_few hmods n) (staleP mfw mf ch n) (w.heap.size + 2) (w.heap.size + 1) wr.heap.size w.heap.size G _ wx hni (fun i w' hc' => other_any i n (w.heap.size + 2) (w.heap.size + 1) wr.heap.size w.heap.size b ob G Fc mfw mf es ch hgw hgn w' B (HL.out.kept (hcx2.then hc') (by simp)) (fun x hx => by have := HGB.out x hx; have := hc'.size; have := HSC.out; omega) (hsa.kept hc')))
      have HCX := Lib.hid (hc.then hcx)
      have hox := owns_kept HOV.out hcx (fun _ _ h => by cases h)
      have HOX := Lib.hid hox
      clear hc hbx hcx hcx2 hcrow hmods hsa hni hox hn hsr
      cases hin : decide (n ∈ ch) with
      | true =>
        rw [hin] at HCT
        have HQ := Lib.hid (show anew mfw mf ch n = true by rw [anew, hin]; rfl)
        clear hin
        go_wp2_with fail
        refine HCT.out.mono ?_; rintro _ _ ⟨rfl, hw⟩; have hw := hw.symm; subst hw
        have HO4 := Lib.hid (owns_kept HOX.out ((Chg.refl [] wx).alloc (.cells #[str n] 9)) (by simp))
        go_wp2_with (at_builtin; go_must (refine wpL_append rfl _ _ 22 rfl 9 _ 1 16 infoStrC Tryz.underlying22 rfl (by decide) _ o.length (o.map str) rfl HO4.out ⟨wx.heap.size, 0, none⟩ 1 1 [str n] rfl rfl (cell_new1 _ _ _) (by simp [Value.oneCell']) ?_ ?_ ?_))
        · omega
        · unfold maxLen; omega
        · intro v' w' hown' hch' hmv'
          have HO' := Lib.hid hown'; have HCH := Lib.hid hch'; have HMV := Lib.hid hmv'
          have hcz := HCX.out.size
          obtain ⟨va, vc, rfl⟩ := slice_of_owns hown'
          clear hown' hch' hmv' HCT HAN
          go_wp2_with fail
          refine ⟨⟨k + 1, o ++ [n], by go_num, by omega, by rw [List.map_append, List.length_append]; exact HO'.out, fun g hg => ?_, by rw [HFT.out, HQ.out, HO.out]; simp, ?_⟩, by simp [intOf]; omega⟩
          · rcases HMV.out g hg with h | h
            · exact HFO.out g h
            · simp at h; omega
          · exact (HCX.out.then ((Chg.refl [] wx).alloc _)).trans HCH.out (fun x hx => .inr (HFO.out x hx))
      | false =>
        rw [hin] at HCT
        have HA0 := Lib.hid (show anew mfw mf ch n = (impOf mf n).any (staleP mfw mf ch n) by rw [anew, hin]; rfl)
        clear hin
        go_wp2_with fail
        refine HCT.out.mono ?_; rintro _ _ ⟨rfl, hw⟩; have hw := hw.symm; subst hw
        go_wp2_with fail
        refine HAN.out.mono ?_; rintro _ wy ⟨rfl, hcy⟩
        have HCX := Lib.hid (HCX.out.then hcy)
        have HOX := Lib.hid (owns_kept HOX.out hcy (fun _ _ h => by cases h))
        have x0 := hcy.cellSome x0 (by simp)
        cases hq : (impOf mf n).any (staleP mfw mf ch n) with
        | true =>
          have HQ := Lib.hid (show anew mfw mf ch n = true by rw [HA0.out, hq])
          clear hq hcy
          have HO4 := Lib.hid (owns_kept HOX.out ((Chg.refl [] wy).alloc (.cells #[str n] 9)) (by simp))
          go_wp2_with (at_builtin; go_must (refine wpL_append rfl _ _ 22 rfl 9 _ 1 16 infoStrC Tryz.underlying22 rfl (by decide) _ o.length (o.map str) rfl HO4.out ⟨wy.heap.size, 0, none⟩ 1 1 [str n] rfl rfl (cell_new1 _ _ _) (by simp [Value.oneCell']) ?_ ?_ ?_))
          · omega
          · unfold maxLen; omega
          · intro v' w' hown' hch' hmv'
            have HO' := Lib.hid hown'; have HCH := Lib.hid hch'; have HMV := Lib.hid hmv'
            have hcz := HCX.out.size
            obtain ⟨va, vc, rfl⟩ := slice_of_owns hown'
            clear hown' hch' hmv' HCT HAN
            go_wp2_with fail
            refine ⟨⟨k + 1, o ++ [n], by go_num, by omega, by rw [List.map_append, List.length_append]; exact HO'.out, fun g hg => ?_, by rw [HFT.out, HQ.out, HO.out]; simp, ?_⟩, by simp [intOf]; omega⟩
            · rcases HMV.out g hg with h | h
              · exact HFO.out g h
              · simp at h; omega
            · exact (HCX.out.then ((Chg.refl [] wy).alloc _)).trans HCH.out (fun x hx => .inr (HFO.out x hx))
        | false =>
          have HQ := Lib.hid (show anew mfw mf ch n = false by rw [HA0.out, hq])
          clear hq hcy
          go_wp2_with fail
          exact ⟨⟨k + 1, o, by go_num, by omega, HOX.out, HFO.out, by rw [HFT.out, HQ.out, HO.out]; simp, HCX.out⟩, by simp [intOf]; omega⟩
    · have hkn : k = names.length := by omega
      have HON := Lib.hid (show o = names.filter (anew mfw mf ch) by rw [HO.out, List.take_of_length_le (by omega)])
      clear hc
      go_wp2_with fail
      go_ret
      have hc3 : Chg [] w wr := (HC.out.then HC2.out).then HCR.out
      refine ⟨hc3, names, _, HND.out, rfl, ?_⟩
      rw [← HON.out]
      have hs3 := HC.out.size
      obtain ⟨a', c', he, hac, hrow⟩ := Row.of_owns HOV.out (F := New w wr) (fun g hg => ⟨by have := HFO.out g hg; omega, owns_lt HOV.out g hg⟩)
      exact ⟨a', c', he, hac, hrow⟩
end Go.Proofs.YtgnfhognbpifiaaGreatDoor
