/- PlanRounds. -/
import Derived.Test.YtgnfhognbpifiaaGreatDoorPlanW6
import Derived.Test.YtgnfhognbpifiaaGreatDoorApiTell
namespace Go.Mq.Plan
open Go Go.RowKit Go.Mq Go.Mq.Tree
abbrev Holds (w : World) (e : Ending) (w' : World) : Prop := e = .returned (.bool true) ∧ Chg [] w w'
end Go.Mq.Plan
namespace Go.Proofs.YtgnfhognbpifiaaGreatDoor
open Go Go.RowKit Go.Mq Go.Mq.Tree Go.Mq.Plan
set_option maxRecDepth 100000
set_option maxHeartbeats 8000000
theorem next_ty {r : Nat} {w w' : World} {v : Value} {ty : TypeId} (h : (Instr.next (.pointer (some ⟨r, 0, none⟩)) false ty).run Tryz.prog w = .ok v w') : ∀ ty', (Instr.next (.pointer (some ⟨r, 0, none⟩)) false ty').run Tryz.prog w = .ok v w' := fun _ => h
theorem rounds_any (hord : ∀ (w : World) (B : Nat), Laid w B → ErrLaid w → Calls Tryz.prog 6 #[] w (Holds w))
    (l : List (List UInt8)) (hn63 : l.length ≤ 9223372036854775807) (hz : ∀ n ∈ l, n.length ≤ 9223372036854775807) (F : Nat → Prop) (a : Option Addr) (c : Nat) (w : World) (B : Nat) (hL : Laid w B) (hg : ErrLaid w) (hF : ∀ x, F x → x < w.heap.size) (h : NamesAt w F l (.slice a l.length c)) :
    Calls Tryz.prog 3 #[.slice a l.length c] w (Holds w) := by
  have hmf : ∀ (fn : Fn) (first cap : Array Value) (w : World), (Instr.makeFunc fn first cap).run Tryz.prog w = .ok (.func fn first cap) w := fun _ _ _ _ => rfl
  have hmm := @run_makeMap Tryz.prog
  have HSH := Lib.hid (short_any l hn63 hz F a c w h)
  have HL := Lib.hid hL; have HG := Lib.hid hg; have HFB := Lib.hid hF; have HN := Lib.hid h; have HORD := Lib.hid hord
  clear hL hg hF h hz hord
  go_enter Tryz.func3, Tryz.ntmps3
  go_wp2_with fail
  refine HSH.out.mono ?_; rintro _ w1 ⟨q, rfl, hq, hc1⟩
  have HQ := Lib.hid hq; have HC1 := Lib.hid hc1
  clear hq hc1 hn63
  cases q with
  | false =>
    go_wp2_with fail
    go_ret
    exact ⟨rfl, HC1.out⟩
  | true =>
    obtain ⟨hf5, hf9⟩ := HQ.out rfl
    have HF9 := Lib.hid hf9
    clear hf9
    have HCK := Lib.hid (HORD.out w1 B (HL.out.kept HC1.out (by simp)) (HG.out.kept HC1.out (by simp)))
    go_wp2_with fail
    refine HCK.out.mono ?_; rintro _ w2 ⟨rfl, hc2⟩
    have HC2 := Lib.hid (HC1.out.then hc2)
    clear hc2
    have HMO := Lib.hid (modules_any l hf5 HF9.out F a c w2 B (HL.out.kept HC2.out (by simp)) (fun x hx => by have := HFB.out x hx; have := HC2.out.size; omega) (HN.out.kept HC2.out (by simp)))
    go_wp2_with fail
    refine HMO.out.mono ?_; rintro _ w3 ⟨rfl, ⟨es, hmods, hes5⟩, hc3⟩
    obtain ⟨b, hb⟩ : ∃ b, b = w2.heap.size := ⟨_, rfl⟩
    rw [← hb] at hmods
    obtain ⟨mf, hmfd⟩ : ∃ f, f = modsF l := ⟨_, rfl⟩
    rw [← hmfd] at hmods
    have HB := Lib.hid hb
    have hz := Blk.new w3 #[.map none] 25
    obtain ⟨wA, hwA⟩ : ∃ x, w3.alloc (.cells #[.map none] 25) = x := ⟨_, rfl⟩
    rw [hwA] at hz
    have hcA : Chg [] w3 wA := by rw [← hwA]; exact (Chg.refl _ _).alloc _
    have z0 := hz.cell 0 _ rfl; have y0 := hz.frozen 0
    obtain ⟨w4, hw4⟩ : ∃ x, wA.setCell ⟨w3.heap.size, 0, none⟩ (.map (some w2.heap.size)) = x := ⟨_, rfl⟩
    have hbm : Blk w4 w3.heap.size #[.map (some b)] 25 := by rw [hb, ← hw4]; simpa using hz.set 0 (.map (some w2.heap.size))
    have hc34 : Chg [] w3 w4 := hcA.trans (by rw [← hw4]; exact Chg.set1 _ _ _ _) (fun x hx => .inr (by simp at hx; omega))
    have x0 : w4.cell? ⟨w3.heap.size, 0, none⟩ = some (.map (some w2.heap.size)) := by rw [← hb]; exact hbm.cell 0 _ rfl
    have hm4 := hmods.kept hc34 (by simp) (by simp)
    have hs34 := hc34.size
    have HOR := Lib.hid (order_any b (fun x => b < x ∧ x < w3.heap.size) mf es w4 (fun x hx => by have := hx.2; omega) hm4)
    have HM4 := Lib.hid hm4; have HBM := Lib.hid hbm; have HC4 := Lib.hid ((HC2.out.then hc3).then hc34)
    have hbl4 : b < w4.heap.size := hm4.1.lt
    have hm3 : w3.heap.size < w4.heap.size := hbm.lt
    rw [hb] at HOR
    clear hz hcA hc34 hm4 hbm hc3 hmods hb hmfd
    go_wp2_with fail
    clear hwA hw4 z0 y0 x0
    rw [← HB.out] at HOR ⊢
    refine HOR.out.mono ?_; rintro e w5 ⟨hc5, names, hnm, hres⟩
    have HNM := Lib.hid hnm
    have hnl := hnm.perm'.length_eq
    have hmem : ∀ n, n ∈ names ↔ (mf n).isSome = true := fun n => by rw [hnm.perm'.mem_iff]; exact mods_mem HM4.out n
    have hnod : names.Nodup := hnm.perm'.nodup_iff.2 (keys_nodup HM4.out.1)
    rw [List.length_map] at hnl
    have HMEM := Lib.hid hmem; have HNOD := Lib.hid hnod; have HC5 := Lib.hid hc5
    have hs5 := hc5.size
    clear hnm hmem hnod
    cases hor : orderL names (fun i => (mf i).isSome) (impOf mf) names.length [] with
    | none =>
      rw [hor] at hres
      simp only at hres
      subst hres
      obtain ⟨out', ho1, ho2⟩ := order_none hor
      have HO2 := Lib.hid ho2
      have hone := left_one HNOD.out (by simpa using ho1)
      have HONE := Lib.hid hone
      have hz := Blk.new w5 #[nils] 22
      obtain ⟨wA, hwA⟩ : ∃ x, w5.alloc (.cells #[nils] 22) = x := ⟨_, rfl⟩
      rw [hwA] at hz
      have hcA : Chg [] w5 wA := by rw [← hwA]; exact (Chg.refl _ _).alloc _
      have z0 := hz.cell 0 _ rfl; have y0 := hz.frozen 0
      obtain ⟨w6, hw6⟩ : ∃ x, wA.setCell ⟨w5.heap.size, 0, none⟩ nils = x := ⟨_, rfl⟩
      have hbo : Blk w6 w5.heap.size #[nils] 22 := by rw [← hw6]; simpa using hz.set 0 nils
      have hc56 : Chg [] w5 w6 := hcA.trans (by rw [← hw6]; exact Chg.set1 _ _ _ _) (fun x hx => .inr (by simp at hx; omega))
      obtain ⟨wb, hwb⟩ : ∃ x, w6.alloc (.map #[] 0) = x := ⟨_, rfl⟩
      have hmi : MapIs wb w6.heap.size [] := by rw [← hwb]; exact MapIs.made w6
      have hcb : Chg [] w6 wb := by rw [← hwb]; exact (Chg.refl _ _).alloc _
      have hsb : wb.heap.size = w6.heap.size + 1 := by rw [← hwb]; simp
      obtain ⟨bx, hbxe⟩ : ∃ x, x = wb.heap.size := ⟨_, rfl⟩
      have hsb' : wb.heap.size = bx := hbxe.symm
      have hzb := Blk.new wb #[.map none] 31
      rw [hsb'] at hzb
      obtain ⟨wc, hwc⟩ : ∃ x, wb.alloc (.cells #[.map none] 31) = x := ⟨_, rfl⟩
      rw [hwc] at hzb
      have hcc : Chg [] wb wc := by rw [← hwc]; exact (Chg.refl _ _).alloc _
      have u0 := hzb.cell 0 _ rfl; have v0 := hzb.frozen 0
      obtain ⟨w7, hw7⟩ : ∃ x, wc.setCell ⟨bx, 0, none⟩ (.map (some w6.heap.size)) = x := ⟨_, rfl⟩
      have hbx : Blk w7 bx #[.map (some w6.heap.size)] 31 := by rw [← hw7]; simpa using hzb.set 0 (.map (some w6.heap.size))
      have hcd : Chg [bx] wc w7 := by rw [← hw7]; exact Chg.set1 _ _ _ _
      have hc67 : Chg [] w6 w7 := (hcb.then hcc).trans hcd (fun x hx => .inr (by simp at hx; omega))
      have hls : LS w7 bx w6.heap.size [] := ⟨hbx, (hmi.kept hcc (by simp)).kept hcd (by simp; omega), fun n v h => by cases h⟩
      have hs56 := hc56.size
      have hs67 := hc67.size
      have hcB : Chg [] w4 w7 := (HC5.out.then hc56).then hc67
      have m0 := (HBM.out.kept hcB (by simp)).cell 0 _ rfl
      obtain ⟨w8, hrg, hri, hc8, hs8⟩ := map_range (P := Tryz.prog) Tryz.underlying25 ((HM4.out.kept hcB (by simp) (by simp)).1)
      have hlx := hbx.lt
      have HLS := Lib.hid (hls.kept hc8 (by simp) (by simp)); have HRI := Lib.hid hri; have HC8 := Lib.hid (hcB.then hc8)
      have HBO := Lib.hid (((hbo.kept hc67 (by simp)).kept hc8 (by simp)))
      have HO6 := Lib.hid hbo
      have H68 := Lib.hid (hc67.then hc8)
      have HC56 := Lib.hid hc56
      clear hz hcA hbo hc56 hmi hcb hzb hcc hbx hcd hc67 hls hcB hri hc8 ho2 hone ho1 hor
      have HSB := Lib.hid hsb
      clear hsb' hsb
      subst hbxe
      go_wp2_with fail
      clear hwA z0 y0 hw6 hwb hwc u0 v0 hw7 m0 hrg
      clear hs8
      have HBX := Lib.hid hlx
      have HPM := Lib.hid (show ∀ n, n ∈ names → n ∈ es.map (·.1) from fun n hn => HNM.out.perm'.mem_iff.1 hn)
      have HS64 := Lib.hid (HC5.out.then (show Chg [] w5 w6 from HC56.out))
      go_loopw [7] (fun _ wr => ∃ rest els, Ranging wr b w7.heap.size es rest ∧ LS wr wb.heap.size w6.heap.size els ∧ (∀ n ∈ names, n ∉ rest → getM els n = some (.bool true)) ∧ Chg [] w6 wr) (fun _ wr => wr.rangeLeft b w7.heap.size)
      case atStart => exact ⟨_, _, HRI.out, HLS.out, fun n hn hr => absurd (HPM.out n hn) hr, H68.out⟩
      case round =>
        obtain ⟨rest, els, hri, hls, hinv, hc⟩ := hrel
        have HINV := Lib.hid hinv; have HC := Lib.hid hc
        clear hinv hc
        rcases map_next (P := Tryz.prog) hri (by omega) 0 with ⟨hnil, hnx⟩ | ⟨n, v, rest', wn, hn1, hn2, hn3, hn4, hn5, hnx, hri2, hcn, hent⟩
        · have hnx' := next_ty hnx
          have m0 := (HBM.out.kept (HS64.out.then HC.out) (by simp)).cell 0 _ rfl
          obtain ⟨w9, hrg9, hri9, hc9, hs9⟩ := map_range (P := Tryz.prog) Tryz.underlying25 hri.map
          have HR9 := Lib.hid hri9; have HC9 := Lib.hid (HC.out.then hc9); have HL9 := Lib.hid (hls.kept hc9 (by simp) (by simp))
          have HI9 := Lib.hid (show ∀ n ∈ names, n ∉ out' → getM els n = some (.bool true) from fun n hn _ => HINV.out n hn (by rw [hnil]; simp))
          have hlx9 := hls.box.lt
          have hs69 := HC.out.size
          clear hnx hri hls hri9 hc9 hs9
          go_wp2_with fail
          clear hnx' m0 hrg9
          obtain ⟨r2, hr2⟩ : ∃ x, x = wr.heap.size := ⟨_, rfl⟩
          rw [← hr2] at HR9 hlx9 hs69 ⊢
          have HR2 := Lib.hid hr2
          clear hr2
          go_loopw [8] (fun _ wr => ∃ rest els, Ranging wr b r2 es rest ∧ LS wr wb.heap.size w6.heap.size els ∧ (∀ n ∈ names, n ∉ out' → getM els n = some (.bool true)) ∧ Chg [] w6 wr) (fun _ wr => wr.rangeLeft b r2)
          case atStart => exact ⟨_, _, HR9.out, HL9.out, HI9.out, HC9.out⟩
          case round =>
            obtain ⟨rest, els, hri, hls, hinv, hc⟩ := hrel
            have HINV := Lib.hid hinv; have HC := Lib.hid hc
            clear hinv hc HC9 HL9 HI9 HR9
            rcases map_next (P := Tryz.prog) hri (by omega) 0 with ⟨hnil, hnx⟩ | ⟨n, v, rest', wn, hn1, hn2, hn3, hn4, hn5, hnx, hri2, hcn, hent⟩
            · have hnx' := next_ty hnx
              have x0 := hls.box.cell 0 _ rfl
              obtain ⟨w9, hrg9, hri9, hc9, hs9⟩ := map_range (P := Tryz.prog) Tryz.underlying31 hls.map
              have HR9 := Lib.hid hri9; have HC9 := Lib.hid (HC.out.then hc9)
              have hlx9 := hls.box.lt
              have hlm9 := hls.map.lt
              have hs69 := HC.out.size
              have HBO9 := Lib.hid hls.bools
              clear hnx hri hls hri9 hc9 hs9 hnil
              go_wp2_with fail
              clear hnx' x0 hrg9
              obtain ⟨r4, hr4⟩ : ∃ x, x = wr.heap.size := ⟨_, rfl⟩
              rw [← hr4] at HR9 hlx9 hs69 hlm9 ⊢
              have HR4 := Lib.hid hr4
              clear hr4
              obtain ⟨n0, hn0, hno0⟩ := HONE.out
              have HG0 := Lib.hid (HINV.out n0 hn0 hno0)
              clear hn0 hno0
              go_loopw [10] (fun _ wr => ∃ rest4, Ranging wr w6.heap.size r4 els rest4 ∧ n0 ∈ rest4 ∧ Chg [] w6 wr) (fun _ wr => wr.rangeLeft w6.heap.size r4)
              case atStart => exact ⟨_, HR9.out, getM_mem.1 (by rw [HG0.out]; rfl), HC9.out⟩
              case round =>
                obtain ⟨rest4, hri, hnr, hc⟩ := hrel
                have HC4' := Lib.hid hc; have HNR := Lib.hid hnr
                clear hc HR9 HC9
                rcases map_next (P := Tryz.prog) hri (by omega) 0 with ⟨hnil, hnx⟩ | ⟨x, v, rest5, wn, hn1, hn2, hn3, hn4, hn5, hnx, hri2, hcn, hent⟩
                · rw [hnil] at hnr; cases hnr
                · clear hnr
                  have hnx' := next_ty hnx
                  obtain ⟨q, rfl⟩ := HBO9.out x v hn3
                  have hcc := HC4'.out.trans hcn (fun x hx => .inr (by simp at hx; omega))
                  have HRA := Lib.hid (hri2)
                  have HRL3 := Lib.hid hri.left_eq; have HCC := Lib.hid hcc
                  have HN3 := Lib.hid hn5; have HN4' := Lib.hid hn4; have HX := Lib.hid hn3
                  have o0 := (HO6.out.kept hcc (by simp)).cell 0 _ rfl
                  have HTL := Lib.hid (tell_errno 11 wn (HG.out.kept (HC4.out.then (HS64.out.then hcc)) (by simp)))
                  clear hnx hri hri2 hcn hcc hn1 hn2 hn3 hn4 hn5
                  cases q with
                  | false =>
                    clear o0
                    go_wp2_with fail
                    refine ⟨⟨rest5, HRA.out, HN4'.out n0 HNR.out (fun he => by have := HG0.out; rw [he, HX.out] at this; cases this), HCC.out⟩, ?_⟩
                    rw [HRA.out.left_eq, HRL3.out]; exact HN3.out
                  | true =>
                    go_wp2_with fail
                    refine HTL.out.mono ?_; rintro _ wq ⟨rfl, hcq⟩
                    have HCQ := Lib.hid (HCC.out.then hcq)
                    have o1 := (HO6.out.kept HCQ.out (by simp)).cell 0 _ rfl
                    clear hcq
                    go_wp2_with fail
                    go_ret
                    exact ⟨rfl, (HC4.out.then HS64.out).then HCQ.out⟩
            · have hnx' := next_ty hnx
              have hsb := HSB.out
              have hls2 := hls.kept hcn (by simp; omega) (by simp; omega)
              have hcc := HC.out.trans hcn (fun x hx => .inr (by simp at hx; omega))
              have m0 := (HBM.out.kept (HS64.out.then hcc) (by simp)).cell 0 _ rfl
              obtain ⟨w10, hrg, hri10, hc10, hs10⟩ := map_range (P := Tryz.prog) Tryz.underlying25 hri2.map
              have HRA := Lib.hid (hri2.kept hc10 (by simp) (by simp)); have HLA := Lib.hid (hls2.kept hc10 (by simp) (by simp)); have HCA := Lib.hid (hcc.then hc10)
              have HRL := Lib.hid hri.left_eq; have HR3 := Lib.hid hri10
              have hr2n := hri2.lt
              have hlx10 := hls2.box.lt
              have hs6n := hcc.size
              clear hnx hls2 hri hls hri2 hcn hcc hri10 hc10 hs10 hsb
              go_wp2_with fail
              clear hnx' m0 hrg
              obtain ⟨r3, hr3⟩ : ∃ x, x = wn.heap.size := ⟨_, rfl⟩
              rw [← hr3] at HR3 hlx10 hs6n hr2n ⊢
              have HR3E := Lib.hid hr3
              clear hr3 hent
              have HN5 := Lib.hid hn5
              clear hn1 hn2 hn3 hn4 hn5
              obtain ⟨wL, hwL⟩ : ∃ x, x = wr := ⟨_, rfl⟩
              subst hwL
              obtain ⟨els0, hels0⟩ : ∃ x, x = els := ⟨_, rfl⟩
              subst hels0
              go_loopw [8] (fun _ wr => ∃ rest2 els, Ranging wr b r3 es rest2 ∧ Ranging wr b r2 es rest' ∧ LS wr wb.heap.size w6.heap.size els ∧ (∀ n ∈ names, n ∉ out' → getM els n = some (.bool true)) ∧ Chg [] w6 wr) (fun _ wr => wr.rangeLeft b r3)
              case atStart => exact ⟨_, _, HR3.out, HRA.out, HLA.out, HINV.out, HCA.out⟩
              case round =>
                obtain ⟨rest2, els, hri, hrr, hls, hinv, hc⟩ := hrel
                have HINV3 := Lib.hid hinv; have HC3 := Lib.hid hc
                clear hinv hc HR3 HRA HLA HCA HINV
                rcases map_next (P := Tryz.prog) hri (by omega) 0 with ⟨hnil, hnx⟩ | ⟨x, v, rest3, wn, hn1, hn2, hn3, hn4, hn5, hnx, hri2, hcn, hent⟩
                · have hnx' := next_ty hnx
                  have HRR := Lib.hid hrr; have HLS3 := Lib.hid hls
                  clear hnx hri hrr hls hnil
                  go_wp2_with fail
                  refine ⟨⟨_, _, HRR.out, HLS3.out, HINV3.out, HC3.out⟩, ?_⟩
                  rw [HRR.out.left_eq, HRL.out]; exact HN5.out
                · have hnx' := next_ty hnx
                  have hsb := HSB.out
                  have hls2 := hls.kept hcn (by simp; omega) (by simp; omega)
                  have hcc := HC3.out.trans hcn (fun x hx => .inr (by simp at hx; omega))
                  have m0 := (HBM.out.kept (HS64.out.then hcc) (by simp)).cell 0 _ rfl
                  have x0 := hls2.box.cell 0 _ rfl
                  have hlo := ls_look hls2 x
                  obtain ⟨nm, ai, ci, av, nv, cv, ap, np, cp, ab, nb, cb, hlkm, _, hnat⟩ := look_mod (HM4.out.kept (HS64.out.then hcc) (by simp) (by simp)) x
                  have hlkm := hlkm wn (Chg.refl _ _)
                  have hfld : (Instr.field 37 (.agg #[str nm, .slice ai (impOf mf x).length ci, .slice av nv cv, .slice ap np cp, .slice ab nb cb]) 1).run Tryz.prog wn = .ok (.slice ai (impOf mf x).length ci) wn := rfl
                  have HCT := Lib.hid (left_contains (impOf mf x) (impOf_few HM4.out x) (bget els) wb.heap.size _ _ wn hnat (fun n w' hcw => left_any n wb.heap.size w6.heap.size els w' (hls2.kept hcw (by simp) (by simp))))
                  have HRA := Lib.hid (hri2); have HRB := Lib.hid (hrr.kept hcn (by simp; omega) (by simp; omega)); have HLS2 := Lib.hid hls2
                  have HRL3 := Lib.hid hri.left_eq; have HCC := Lib.hid hcc
                  have HN3 := Lib.hid hn5
                  clear hnx hls2 hri hls hri2 hcn hcc hrr hsb hnat hn1 hn2 hn3 hn4 hn5
                  cases hq : bget els x with
                  | false =>
                    rw [hq] at hlo
                    clear hq
                    go_wp2_with fail
                    refine ⟨⟨_, _, HRA.out, HRB.out, HLS2.out, HINV3.out, HCC.out⟩, ?_⟩
                    rw [HRA.out.left_eq, HRL3.out]; exact HN3.out
                  | true =>
                    rw [hq] at hlo
                    clear hq
                    go_wp2_with fail
                    refine HCT.out.mono ?_; rintro _ wq ⟨rfl, hcq⟩
                    have HCQ := Lib.hid (HCC.out.then hcq)
                    have HRAQ := Lib.hid (HRA.out.kept hcq (by simp) (by simp)); have HRBQ := Lib.hid (HRB.out.kept hcq (by simp) (by simp)); have HLSQ := Lib.hid (HLS2.out.kept hcq (by simp) (by simp))
                    cases hany : (impOf mf x).any (bget els) with
                    | true =>
                      clear hcq hany
                      go_wp2_with fail
                      refine ⟨⟨_, _, HRAQ.out, HRBQ.out, HLSQ.out, HINV3.out, HCQ.out⟩, ?_⟩
                      rw [HRAQ.out.left_eq, HRL3.out]; exact HN3.out
                    | false =>
                      have HAN := Lib.hid hany
                      have hsb := HSB.out
                      obtain ⟨wu, hup, hlsu, hcu⟩ := ls_put HLSQ.out (by omega) x false
                      have x1 := HLSQ.out.box.cell 0 _ rfl
                      have HRU := Lib.hid (HRAQ.out.kept hcu (by simp; omega) (by simp; omega)); have HRV := Lib.hid (HRBQ.out.kept hcu (by simp; omega) (by simp; omega)); have HLU := Lib.hid hlsu
                      have HCU := Lib.hid (HCQ.out.trans hcu (fun x hx => .inr (by simp at hx; omega)))
                      clear hcq hany hsb hlsu hcu
                      go_wp2_with fail
                      refine ⟨⟨rest3, putM els x (.bool false), HRU.out, HRV.out, HLU.out, fun n hn ho => ?_, HCU.out⟩, ?_⟩
                      · rw [getM_put]
                        by_cases he : x = n
                        · subst he
                          obtain ⟨i, hi1, hi2, hi3⟩ := HO2.out x hn ho
                          have := HINV3.out i ((HMEM.out i).2 hi2) hi3
                          exact absurd (bget_true this) (by have h1 := List.any_eq_false.1 HAN.out i hi1; simpa using h1)
                        · rw [if_neg he]; exact HINV3.out n hn ho
                      · rw [HRU.out.left_eq, HRL3.out]; exact HN3.out
        · have hnx' := next_ty hnx
          have hsb := HSB.out
          have hls2 := hls.kept hcn (by simp; omega) (by simp; omega)
          obtain ⟨wu, hup, hlsu, hcu⟩ := ls_put hls2 (by have := HSB.out; omega) n true
          have x0 := hls2.box.cell 0 _ rfl
          have HRU := Lib.hid (hri2.kept hcu (by simp; omega) (by simp; omega)); have HLU := Lib.hid hlsu
          have HCU := Lib.hid ((HC.out.trans hcn (fun x hx => .inr (by simp at hx; omega))).trans hcu (fun x hx => .inr (by simp at hx; omega)))
          have HRL := Lib.hid hri.left_eq
          clear hnx hls2 hri hls hri2 hcn hlsu hcu hsb
          go_wp2_with fail
          refine ⟨⟨rest', putM els n (.bool true), HRU.out, HLU.out, fun x hx hxr => ?_, HCU.out⟩, ?_⟩
          · rw [getM_put]
            by_cases he : n = x
            · rw [if_pos he]
            · rw [if_neg he]
              exact HINV.out x hx fun hr => hxr (hn4 x hr (Ne.symm he))
          · rw [HRU.out.left_eq, HRL.out]; exact hn5
    | some o =>
      rw [hor] at hres
      simp only at hres
      obtain ⟨v, rfl, hov⟩ := hres
      obtain ⟨ho1, _, ho3⟩ := order_some hor
      have hol : o.length = names.length := by simpa using ho1
      have hfew : o.length ≤ 1000 := by omega
      have HO3 := Lib.hid (show ∀ i n, o[i]? = some n → n ∉ o.take i ∧ ∀ j ∈ impOf mf n, (mf j).isSome = true → j ∈ o.take i from fun i n hn => (ho3 i n (Nat.zero_le _) hn).2)
      obtain ⟨oa, oc, rfl, hoc, horow⟩ := hov
      have HOL := Lib.hid (show o.length = es.length by omega)
      have HOROW := Lib.hid horow
      have hz := Blk.new w5 #[nils] 22
      obtain ⟨wA, hwA⟩ : ∃ x, w5.alloc (.cells #[nils] 22) = x := ⟨_, rfl⟩
      rw [hwA] at hz
      have hcA : Chg [] w5 wA := by rw [← hwA]; exact (Chg.refl _ _).alloc _
      have z0 := hz.cell 0 _ rfl; have y0 := hz.frozen 0
      obtain ⟨w6, hw6⟩ : ∃ x, wA.setCell ⟨w5.heap.size, 0, none⟩ (.slice oa o.length oc) = x := ⟨_, rfl⟩
      have hbo : Blk w6 w5.heap.size #[.slice oa o.length oc] 22 := by rw [← hw6]; simpa using hz.set 0 (.slice oa o.length oc)
      have hc56 : Chg [] w5 w6 := hcA.trans (by rw [← hw6]; exact Chg.set1 _ _ _ _) (fun x hx => .inr (by simp at hx; omega))
      have hzi := Blk.new w6 #[.int .i64 0] 3
      obtain ⟨wB, hwB⟩ : ∃ x, w6.alloc (.cells #[.int .i64 0] 3) = x := ⟨_, rfl⟩
      rw [hwB] at hzi
      have hcB : Chg [] w6 wB := by rw [← hwB]; exact (Chg.refl _ _).alloc _
      have u0 := hzi.cell 0 _ rfl; have v0 := hzi.frozen 0
      obtain ⟨w7, hw7⟩ : ∃ x, wB.setCell ⟨w6.heap.size, 0, none⟩ (.int .i64 0) = x := ⟨_, rfl⟩
      have hbi : Blk w7 w6.heap.size #[.int .i64 ((0 : Nat) : Int)] 3 := by rw [← hw7]; simpa using hzi.set 0 (.int .i64 0)
      have hc67 : Chg [] w6 w7 := hcB.trans (by rw [← hw7]; exact Chg.set1 _ _ _ _) (fun x hx => .inr (by simp at hx; omega))
      have hs56 := hc56.size
      have hs67 := hc67.size
      have hbol := hbo.lt
      have HC46 := Lib.hid (HC5.out.then hc56); have HC67 := Lib.hid hc67
      have HBO := Lib.hid hbo; have HBI := Lib.hid hbi; have HOR6 := Lib.hid (HOROW.out.kept hc56 (by simp))
      clear hz hcA hbo hc56 hzi hcB hbi hc67 horow hor ho1 ho3 hol HOROW
      go_wp2_with fail
      clear hwA z0 y0 hw6 hwB u0 v0 hw7
      go_loopw [11] (fun i wr => ∃ (k bi : Nat), i = ptr bi ∧ w6.heap.size ≤ bi ∧ Blk wr bi #[.int .i64 (k : Int)] 3 ∧ k ≤ o.length ∧ Chg [] w6 wr) (fun i wr => o.length - intAtP wr i)
      case atStart => exact ⟨0, _, rfl, Nat.le_refl _, HBI.out, Nat.zero_le _, HC67.out⟩
      case round =>
        obtain ⟨k, bi, rfl, hbi6, hbi, hk, hc⟩ := hrel
        have HBIr := Lib.hid hbi; have HC := Lib.hid hc
        have i0 := hbi.cell 0 _ rfl
        have o0 := (HBO.out.kept hc (by simp)).cell 0 _ rfl
        have HIA := Lib.hid (show intAtP wr (ptr bi) = k by simp [intAtP, i0])
        clear hbi hc
        by_cases hlt : k < o.length
        · obtain ⟨x, hx⟩ : ∃ x, o[k]? = some x := ⟨o[k], List.getElem?_eq_getElem hlt⟩
          obtain ⟨hx1, hx2⟩ := HO3.out k x hx
          have hp : (impOf mf x).any (fun n => (mf n).isSome && !decide (n ∈ o.take k)) = false := by
            rw [List.any_eq_false]
            intro j hj
            cases hm : (mf j).isSome with
            | false => simp
            | true => simp [hx2 j hj hm]
          obtain ⟨ob, oo, rfl, d0⟩ := names_cell (HOR6.out.kept HC.out (by simp)) hx
          have HP := Lib.hid hp; have HX1 := Lib.hid (show decide (x ∈ o.take k) = false by simpa using hx1)
          clear hp hx hx1 hx2
          go_wp2_with fail
          obtain ⟨wD, hwD⟩ : ∃ x, x = wr.drew := ⟨_, rfl⟩
          have hcD : Chg [] wr wD := by rw [hwD]; exact (Chg.refl [] wr).drew
          have hcD6 := HC.out.then hcD
          have m0 := (HBM.out.kept (HC46.out.then hcD6) (by simp)).cell 0 _ rfl
          have i1 := (HBIr.out.kept hcD (by simp)).cell 0 _ rfl
          have o1 := (HBO.out.kept hcD6 (by simp)).cell 0 _ rfl
          have d1 := hcD.cellSome d0 (by simp)
          have hrowD := HOR6.out.kept hcD6 (by simp)
          have hmD := HM4.out.kept (HC46.out.then hcD6) (by simp) (by simp)
          obtain ⟨nm, ai, ci, av, nv, cv, ap, np, cp, ab, nb, cb, hlkm, _, hnat⟩ := look_mod hmD x
          have hlkm := hlkm wD (Chg.refl _ _)
          have hfld : (Instr.field 37 (.agg #[str nm, .slice ai (impOf mf x).length ci, .slice av nv cv, .slice ap np cp, .slice ab nb cb]) 1).run Tryz.prog wD = .ok (.slice ai (impOf mf x).length ci) wD := rfl
          have hla : LastAt wD w3.heap.size w5.heap.size bi b _ _ mf es o k := ⟨m0, ⟨_, _, o1, hoc, hrowD⟩, i1, hmD, hfew, hlt⟩
          have hko : k ≤ oc := by omega
          have HC1' := Lib.hid (contains_in (o.take k) (by rw [List.length_take]; omega) x _ _ wD (names_take hrowD hoc (by omega)))
          have HC2' := Lib.hid (last_contains (impOf mf x) (impOf_few hmD x) _ w3.heap.size w5.heap.size bi _ _ wD hnat (fun n w' hcw => last_any n w3.heap.size w5.heap.size bi b _ _ mf es o k w' (hla.kept hcw)))
          have Z1 := Lib.hid (Zone.of (X := []) (w0 := wD) m0 (by simp)); have Z2 := Lib.hid (Zone.of (X := []) (w0 := wD) i1 (by simp)); have Z3 := Lib.hid (Zone.of (X := []) (w0 := wD) o1 (by simp)); have Z4 := Lib.hid (Zone.of (X := []) (w0 := wD) d1 (by simp))
          have HCD6 := Lib.hid hcD6; have HCD := Lib.hid hcD
          clear i0 o0 d0 hcD hcD6 hrowD hmD hnat hla
          refine wp_region_C [] rfl (by kernel_rfl) ?_
          rw [← hwD]
          clear hwD
          have hS : Chg [] wD wD := Chg.refl _ _
          repeat
            (with_reducible show wpX _ _ _ _ _ _ _ _
             first
               | refine wpX_nil ?_
               | refine wpX_skip rfl ?_
               | refine wpX_mv rfl rfl (by kernel_rfl) (fun _ _ => ?_)
               | refine wpX_ldC rfl rfl rfl (by first | exact Z1.out | exact Z2.out | exact Z3.out | exact Z4.out) (by assumption) (fun _ _ => ?_)
               | refine wpX_ef' rfl rfl rfl (fun _ _ => ?_)
             go_wp2_with fail)
          refine HC1'.out.mono ?_; rintro _ _ ⟨rfl, hw⟩; have hw := hw.symm; subst hw
          rw [HX1.out]
          go_wp2_with fail
          refine And.intro hS ?_
          repeat
            (with_reducible show wpX _ _ _ _ _ _ _ _
             first
               | refine wpX_nil ?_
               | refine wpX_skip rfl ?_
               | refine wpX_mv rfl rfl (by kernel_rfl) (fun _ _ => ?_)
               | refine wpX_ldC rfl rfl rfl (by first | exact Z1.out | exact Z2.out | exact Z3.out | exact Z4.out) (by assumption) (fun _ _ => ?_)
               | refine wpX_ef' rfl rfl rfl (fun _ _ => ?_)
             go_wp2_with fail)
          refine And.intro hS ?_
          repeat
            (with_reducible show wpX _ _ _ _ _ _ _ _
             first
               | refine wpX_nil ?_
               | refine wpX_skip rfl ?_
               | refine wpX_mv rfl rfl (by kernel_rfl) (fun _ _ => ?_)
               | refine wpX_ldC rfl rfl rfl (by first | exact Z1.out | exact Z2.out | exact Z3.out | exact Z4.out) (by assumption) (fun _ _ => ?_)
               | refine wpX_ef' rfl rfl rfl (fun _ _ => ?_)
             go_wp2_with fail)
          refine HC2'.out.mono ?_; rintro _ wq ⟨rfl, hcq⟩
          rw [HP.out]
          have HCQ := Lib.hid hcq
          have hbq := (HBIr.out.kept HCD.out (by simp)).kept hcq (by simp)
          have j0 := hbq.cell 0 _ rfl
          have hzi := Blk.new wq #[.int .i64 0] 3
          obtain ⟨wE, hwE⟩ : ∃ x, wq.alloc (.cells #[.int .i64 0] 3) = x := ⟨_, rfl⟩
          rw [hwE] at hzi
          have hcE : Chg [] wq wE := by rw [← hwE]; exact (Chg.refl _ _).alloc _
          have e0 := hzi.cell 0 _ rfl; have e1 := hzi.frozen 0
          obtain ⟨wF, hwF⟩ : ∃ x, wE.setCell ⟨wq.heap.size, 0, none⟩ (.int .i64 k) = x := ⟨_, rfl⟩
          have hbF : Blk wF wq.heap.size #[.int .i64 (k : Int)] 3 := by rw [← hwF]; simpa using hzi.set 0 (.int .i64 k)
          have hcF : Chg [] wq wF := hcE.trans (by rw [← hwF]; exact Chg.set1 _ _ _ _) (fun x hx => .inr (by simp at hx; omega))
          have g0 := hbF.cell 0 _ rfl; have g1 := hbF.frozen 0
          obtain ⟨wG, hwG⟩ : ∃ x, wF.setCell ⟨wq.heap.size, 0, none⟩ (.int .i64 ((k : Int) + 1)) = x := ⟨_, rfl⟩
          have hbG : Blk wG wq.heap.size #[.int .i64 ((k + 1 : Nat) : Int)] 3 := by rw [← hwG]; simpa using hbF.set 0 (.int .i64 ((k : Int) + 1))
          have hcG : Chg [] wq wG := hcF.trans (by rw [← hwG]; exact Chg.set1 _ _ _ _) (fun x hx => .inr (by simp at hx; omega))
          have HBG := Lib.hid hbG; have HCG := Lib.hid ((HCD6.out.then hcq).then hcG)
          have HQL := Lib.hid (show w6.heap.size ≤ wq.heap.size from (HCD6.out.then hcq).size)
          clear hbq hcE hzi hbF hcF hbG hcG hcq
          go_wp2_with fail
          refine And.intro HCQ.out ?_
          repeat
            (with_reducible show wpX _ _ _ _ _ _ _ _
             first
               | refine wpX_nil ?_
               | refine wpX_skip rfl ?_
               | refine wpX_mv rfl rfl (by kernel_rfl) (fun _ _ => ?_)
               | refine wpX_ldC rfl rfl rfl (by first | exact Z1.out | exact Z2.out | exact Z3.out | exact Z4.out) (by assumption) (fun _ _ => ?_)
               | refine wpX_ef' rfl rfl rfl (fun _ _ => ?_)
             go_wp2_with fail)
          go_wp2_with fail
          refine ⟨⟨k + 1, wq.heap.size, rfl, HQL.out, HBG.out, by omega, HCG.out⟩, ?_⟩
          have hg : wG.cell? ⟨wq.heap.size, 0, none⟩ = some (.int .i64 ((k + 1 : Nat) : Int)) := HBG.out.cell 0 _ rfl
          rw [HIA.out, show intAtP wG (.pointer (some ⟨wq.heap.size, 0, none⟩)) = k + 1 by simp only [intAtP, hg]; rfl]
          omega
        · have he : k = o.length := by omega
          subst he
          obtain ⟨arr, clock, hb, he, _⟩ := (HM4.out.kept (HC46.out.then HC.out) (by simp) (by simp)).1
          have HAL := Lib.hid (show arr.size = o.length by have := congrArg List.length he; simp at this; rw [HOL.out]; exact this)
          have m0 := (HBM.out.kept (HC46.out.then HC.out) (by simp)).cell 0 _ rfl
          clear he
          have hlen : (Builtin.len_ #[25] 3 #[.map (some b)]).run Tryz.prog wr = .ok (.int .i64 o.length) wr := by
            have := run_len_map (P := Tryz.prog) wr 25 3 b arr clock Tryz.underlying25 hb
            rw [this, HAL.out]; rfl
          clear hb
          go_wp2_with fail
          go_ret
          exact ⟨by simp, HC4.out.then (HC46.out.then HC.out)⟩
end Go.Proofs.YtgnfhognbpifiaaGreatDoor
