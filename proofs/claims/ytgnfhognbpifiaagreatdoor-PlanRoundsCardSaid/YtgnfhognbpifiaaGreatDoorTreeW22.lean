/- Parse. -/
import Derived.Test.YtgnfhognbpifiaaGreatDoorTreeW21
namespace Go.Mq.Tree
open Go Go.RowKit Go.Mq
/-- What Parse hands back. -/
def ParseOut (w : World) (r : Res) (e : Ending) (w' : World) : Prop := Chg [] w w' ∧ match r with
  | .ok m => ∃ v, e = .returned (.tuple #[v, .nilIface]) ∧ ModAt w' (New w w') m v
  | .bad en p => ∃ b, e = .returned (.tuple #[.agg #[str [], nils, nils, nils, nils], .iface 124 (ptr b)]) ∧ w.heap.size ≤ b ∧ Blk w' b #[.int .i64 en, .int .i64 p] 126
end Go.Mq.Tree
namespace Go.Proofs.YtgnfhognbpifiaaGreatDoor
open Go Go.RowKit Go.Mq Go.Mq.Tree
set_option maxRecDepth 100000
set_option maxHeartbeats 1000000
theorem results_cells (tmps : Array Value) (bm be : Nat) (c0 c1 c2 c3 c4 ev : Value) (w : World) (h2 : tmps[2]?.getD undef = ptr bm) (h3 : tmps[3]?.getD undef = ptr be) (hm : Blk w bm #[c0, c1, c2, c3, c4] 37) (he : Blk w be #[ev] 28) :
    (results Tryz.f19 tmps).run Tryz.prog w = .ok (.tuple #[.agg #[c0, c1, c2, c3, c4], ev]) w := by
  have d0 := hm.cell 0 _ rfl; have d1 := hm.cell 1 _ rfl; have d2 := hm.cell 2 _ rfl; have d3 := hm.cell 3 _ rfl; have d4 := hm.cell 4 _ rfl
  have e0 := he.cell 0 _ rfl
  simp [results, Tryz.results19, h2, h3, go_sem, d0, d1, d2, d3, d4, e0]
theorem leave_idle (tmps : Array Value) (bm be : Nat) (c0 c1 c2 c3 c4 ev : Value) (w : World) (R : Ending → World → Prop) (h2 : tmps[2]?.getD undef = ptr bm) (h3 : tmps[3]?.getD undef = ptr be) (hm : Blk w bm #[c0, c1, c2, c3, c4] 37) (he : Blk w be #[ev] 28)
    (hR : R (.returned (.tuple #[.agg #[c0, c1, c2, c3, c4], ev])) w) : Leaves Tryz.prog Tryz.f19 tmps R [{ target := .fn (.func 33) #[ptr bm, ptr be], args := #[] }] .returning w := by
  refine leaves_cons (f := 33) (args := #[ptr bm, ptr be]) (by simp) (by simp [go_sem]) ?_
  refine (catch_idle bm be w).mono ?_
  rintro e u' w'' ⟨rfl, rfl, rfl⟩
  exact ⟨_, results_cells tmps bm be c0 c1 c2 c3 c4 ev w'' h2 h3 hm he, hR⟩
theorem leave_thrown (tmps : Array Value) (bm be b : Nat) (c0 c1 c2 c3 c4 ev : Value) (w : World) (R : Ending → World → Prop) (h2 : tmps[2]?.getD undef = ptr bm) (h3 : tmps[3]?.getD undef = ptr be) (hm : Blk w bm #[c0, c1, c2, c3, c4] 37) (he : Blk w be #[ev] 28) (hne : bm ≠ be)
    (hR : ∀ w', Chg [bm, be] w w' → R (.returned (.tuple #[.agg #[str [], nils, nils, nils, nils], .iface 124 (ptr b)])) w') : Leaves Tryz.prog Tryz.f19 tmps R [{ target := .fn (.func 33) #[ptr bm, ptr be], args := #[] }] (.panicking [{ v := .iface 66 (.agg #[.iface 124 (ptr b)]), recovered := false }]) w := by
  refine leaves_cons (f := 33) (args := #[ptr bm, ptr be]) (by simp) (by simp [go_sem]) ?_
  refine (catch_thrown bm be b c0 c1 c2 c3 c4 ev w hm he hne).mono ?_
  rintro e u' w'' ⟨rfl, rfl, hc, hm', he'⟩
  exact ⟨_, results_cells tmps bm be _ _ _ _ _ _ w'' h2 h3 hm' he', hR w'' hc⟩
theorem parse_any (l : List UInt8) (hl : l.length ≤ 1099511627776) (w : World) (B : Nat) (hL : Laid w B) : Calls Tryz.prog 19 #[str l] w (ParseOut w (parse l)) := by
  have hmf : ∀ (fn : Fn) (first cap : Array Value) (w : World), (Instr.makeFunc fn first cap).run Tryz.prog w = .ok (.func fn first cap) w := fun _ _ _ _ => rfl
  have hw1 : (w.alloc (.cells #[str [], nils, nils, nils, nils] 37)).heap.size = w.heap.size + 1 := by simp
  obtain ⟨w0, hw0⟩ : ∃ w0, w0 = (w.alloc (.cells #[str [], nils, nils, nils, nils] 37)).alloc (.cells #[.nilIface] 28) := ⟨_, rfl⟩
  have hb0 := Blk.new (w.alloc (.cells #[str [], nils, nils, nils, nils] 37)) #[.nilIface] 28
  have hm0 := (Blk.new w #[str [], nils, nils, nils, nils] 37).kept ((Chg.refl [] _).alloc (.cells #[.nilIface] 28)) (by simp)
  have hc0 : Chg [] w ((w.alloc (.cells #[str [], nils, nils, nils, nils] 37)).alloc (.cells #[.nilIface] 28)) := ((Chg.refl _ _).alloc _).alloc _
  have hs0 : ((w.alloc (.cells #[str [], nils, nils, nils, nils] 37)).alloc (.cells #[.nilIface] 28)).heap.size = w.heap.size + 2 := by simp
  rw [hw1, ← hw0] at hb0
  rw [← hw0] at hm0 hc0 hs0
  have HBE := Lib.hid hb0; have HBM := Lib.hid hm0; have HC0 := Lib.hid hc0
  have hLw : Laid w0 B := hL.kept hc0 (by simp)
  have HL := Lib.hid hLw
  have HTK := Lib.hid (tokens_any l hl w0 B hLw)
  have hB0 := hL.le
  clear hL hLw hb0 hm0 hw1 hc0
  cases hx : lex l with
  | bad en q =>
    have HRR := Lib.hid (show parse l = .bad en q by rw [parse, hx])
    rw [hx] at HTK
    clear hx
    go_enter_defers Tryz.func19, Tryz.ntmps19
    go_wp2_with fail
    try rw [← hw0]
    refine HTK.out.mono ?_; rintro _ w1 ⟨hc1, b, rfl, hbl, hb1⟩
    have hbe := HBE.out.kept hc1 (by simp)
    have hbm := HBM.out.kept hc1 (by simp)
    have d0 := hbe.cell 0 _ rfl
    have f0 := hbe.frozen 0
    clear hw0
    have hcs : Chg [w.heap.size + 1] w1 (w1.setCell ⟨w.heap.size + 1, 0, none⟩ (.iface 124 (ptr b))) := Chg.set1 _ _ _ _
    have hbe2 : Blk (w1.setCell ⟨w.heap.size + 1, 0, none⟩ (.iface 124 (ptr b))) (w.heap.size + 1) #[.iface 124 (ptr b)] 28 := by simpa using hbe.set 0 (.iface 124 (ptr b))
    have hbm2 := hbm.kept hcs (by simp)
    have hb2 := hb1.kept hcs (by simp; omega)
    have hc2 : Chg [] w _ := (HC0.out.then hc1).trans hcs (fun x hx => .inr (by simp at hx; omega))
    have HBE2 := Lib.hid hbe2; have HBM2 := Lib.hid hbm2; have HB2 := Lib.hid hb2; have HC2 := Lib.hid hc2
    clear hc1 hb1 hbe hbm hcs hbe2 hbm2 hb2 hc2
    go_wp2_with fail
    generalize w1.setCell ⟨w.heap.size + 1, 0, none⟩ (.iface 124 (ptr b)) = w2 at *
    have d0 := HBE2.out.cell 0 _ rfl; have f0 := HBE2.out.frozen 0
    have m0 := HBM2.out.cell 0 _ rfl; have m1 := HBM2.out.cell 1 _ rfl; have m2 := HBM2.out.cell 2 _ rfl; have m3 := HBM2.out.cell 3 _ rfl; have m4 := HBM2.out.cell 4 _ rfl
    have k0 := HBM2.out.frozen 0; have k1 := HBM2.out.frozen 1; have k2 := HBM2.out.frozen 2; have k3 := HBM2.out.frozen 3; have k4 := HBM2.out.frozen 4
    go_region
    obtain ⟨wF, hwF, hcF, hbF⟩ := set5 (str []) nils nils nils nils HBM2.out
    have heF := HBE2.out.kept hcF (by simp)
    have hcE : Chg [w.heap.size + 1] wF (wF.setCell ⟨w.heap.size + 1, 0, none⟩ (.iface 124 (ptr b))) := Chg.set1 _ _ _ _
    have hbE := hbF.kept hcE (by simp)
    have heE := heF.set 0 (.iface 124 (ptr b))
    simp only [Array.setIfInBounds, List.size_toArray, List.length_cons, List.length_nil] at heE
    have hb2 := (HB2.out.kept hcF (by simp; omega)).kept hcE (by simp; omega)
    have hcG : Chg [] w (wF.setCell ⟨w.heap.size + 1, 0, none⟩ (.iface 124 (ptr b))) := (HC2.out.trans hcF (fun x hx => .inr (by simp at hx; omega))).trans hcE (fun x hx => .inr (by simp at hx; omega))
    have HFIN := Lib.hid (And.intro hbE (And.intro heE (And.intro hb2 hcG)))
    clear hbE heE hb2 hcG hcE heF hbF hcF d0 f0 m0 m1 m2 m3 m4 k0 k1 k2 k3 k4
    rw [hwF]
    go_wp2_with fail
    obtain ⟨hbE, heE, hb2, hcG⟩ := HFIN.out
    refine leave_idle _ _ _ _ _ _ _ _ _ _ _ rfl rfl (hbE.kept (Chg.refl [] _).drew (by simp)) (heE.kept (Chg.refl [] _).drew (by simp)) ?_
    rw [HRR.out]
    exact ⟨hcG.drew, b, rfl, by omega, hb2.kept (Chg.refl [] _).drew (by simp)⟩
  | ok ts =>
    have HLX := Lib.hid hx
    rw [hx] at HTK
    clear hx
    go_enter_defers Tryz.func19, Tryz.ntmps19
    go_wp2_with fail
    try rw [← hw0]
    refine HTK.out.mono ?_; rintro _ w1 ⟨hc1, a, k, rfl, hk, hrow, hfew, hshort⟩
    obtain ⟨bt, off, rfl, hcell⟩ := hrow.at_ (by rw [toksCells_eq]; simp)
    have hF := hrow.own (by rw [toksCells_eq]; simp) _ rfl
    have hbe := HBE.out.kept hc1 (by simp)
    have hbm := HBM.out.kept hc1 (by simp)
    have d0 := hbe.cell 0 _ rfl
    have f0 := hbe.frozen 0
    clear hw0
    have hcs : Chg [w.heap.size + 1] w1 (w1.setCell ⟨w.heap.size + 1, 0, none⟩ .nilIface) := Chg.set1 _ _ _ _
    have hbe2 : Blk (w1.setCell ⟨w.heap.size + 1, 0, none⟩ .nilIface) (w.heap.size + 1) #[.nilIface] 28 := by simpa using hbe.set 0 .nilIface
    have hbm2 := hbm.kept hcs (by simp)
    have hc2 : Chg [] w _ := (HC0.out.then hc1).trans hcs (fun x hx => .inr (by simp at hx; omega))
    have hs1 := hc1.size
    have hL2 := (HL.out.kept hc1 (by simp)).kept hcs (fun x hx => by simp at hx; omega)
    have hbt0 : w0.heap.size ≤ bt := hF.1
    have hcell2 : ∀ (i : Nat) (v : Value), (toksCells l.length ts)[i]? = some v → (w1.setCell ⟨w.heap.size + 1, 0, none⟩ .nilIface).cell? ⟨bt, off + i, none⟩ = some v := fun i v hv => hcs.cellSome (hcell i v hv) (by simp; omega)
    have hs2 : (w1.setCell ⟨w.heap.size + 1, 0, none⟩ .nilIface).heap.size = w1.heap.size := by simp [World.setCell]
    have hbt1 : bt < w1.heap.size := hF.2
    obtain ⟨w2, hw2⟩ : ∃ w2, w2 = w1.setCell ⟨w.heap.size + 1, 0, none⟩ .nilIface := ⟨_, rfl⟩
    rw [← hw2] at hbe2 hbm2 hc2 hL2 hcell2 hs2
    obtain ⟨w3, hw3⟩ : ∃ w3, w3 = w2.alloc (.cells #[.slice (some ⟨bt, off, none⟩) (ts.length + 1) k] 73) := ⟨_, rfl⟩
    have hc3 : Chg [] w2 w3 := by rw [hw3]; exact (Chg.refl _ _).alloc _
    have hb3 : Blk w3 w1.heap.size #[.slice (some ⟨bt, off, none⟩) (ts.length + 1) k] 73 := by rw [hw3, ← hs2]; exact Blk.new _ _ _
    have hs3 : w3.heap.size = w1.heap.size + 1 := by rw [hw3, ← hs2]; simp
    have hPar : Par w3 B w1.heap.size bt l.length ts := ⟨hL2.kept hc3 (by simp), by omega, by omega, by omega, hfew, hshort, off, k, hb3, hk, fun i v hv => hc3.cellSome (hcell2 i v hv) (by simp)⟩
    have hbe3 := hbe2.kept hc3 (by simp)
    have hbm3 := hbm2.kept hc3 (by simp)
    have hcw3 : Chg [] w w3 := hc2.then hc3
    have HM := Lib.hid (module_any w3 B w1.heap.size bt l.length ts hPar)
    have HBE3 := Lib.hid hbe3; have HBM3 := Lib.hid hbm3; have HC3 := Lib.hid hcw3
    have hn2 : w.heap.size + 2 ≤ w1.heap.size := by omega
    have g0 : w2.cell? ⟨w.heap.size + 1, 0, none⟩ = some .nilIface := hbe2.cell 0 _ rfl
    clear hc1 hrow hcell hF hbe hbm hcs hbe2 hbm2 hc2 hL2 hcell2 hc3 hb3 hPar hbe3 hbm3 hcw3 hfew hshort
    cases hx : module_ l.length ts with
    | bad en q =>
      have HRR := Lib.hid (show parse l = .bad en q by rw [parse, HLX.out]; simp only [hx])
      rw [hx] at HM
      clear hx
      go_wp2_with fail
      rw [← hw2, ← hw3]
      refine HM.out.mono ?_; intro e w9 he
      obtain ⟨b9, rfl⟩ := he.thrown
      have HEE := Lib.hid he
      clear he
      go_wp2_with fail
      obtain ⟨hc9, b, hbe9, hlt9, hb9⟩ := HEE.out
      cases hbe9
      refine leave_thrown _ _ _ _ _ _ _ _ _ _ _ _ rfl rfl (HBM3.out.kept hc9 (by simp; omega)) (HBE3.out.kept hc9 (by simp; omega)) (by omega) (fun w' hc => ?_)
      rw [HRR.out]
      exact ⟨(HC3.out.trans hc9 (fun x hx => .inr (by simp at hx; omega))).trans hc (fun x hx => .inr (by simp at hx; omega)), _, rfl, by omega, hb9.kept hc (by simp; omega)⟩
    | ok m ts' =>
      have HMX := Lib.hid hx
      rw [hx] at HM
      clear hx
      go_wp2_with fail
      rw [← hw2, ← hw3]
      refine HM.out.mono ?_; rintro _ w4 ⟨hc4, _, rfl, ⟨vi, vv, vp, vb, rfl, hmi, hmv, hmp, hmb⟩, hp4⟩
      have hbe4 := HBE3.out.kept hc4 (by simp; omega)
      have hbm4 := HBM3.out.kept hc4 (by simp; omega)
      have d0 := hbm4.cell 0 _ rfl; have d1 := hbm4.cell 1 _ rfl; have d2 := hbm4.cell 2 _ rfl; have d3 := hbm4.cell 3 _ rfl; have d4 := hbm4.cell 4 _ rfl
      have f0 := hbm4.frozen 0; have f1 := hbm4.frozen 1; have f2 := hbm4.frozen 2; have f3 := hbm4.frozen 3; have f4 := hbm4.frozen 4
      have hs4 := hc4.size
      have hcw4 : Chg [] w w4 := HC3.out.trans hc4 (fun x hx => .inr (by simp at hx; omega))
      have HMA := Lib.hid (show ModAt w4 (New w3 w4) m (.agg #[str m.name, vi, vv, vp, vb]) from ⟨vi, vv, vp, vb, rfl, hmi, hmv, hmp, hmb⟩)
      obtain ⟨ai, ci, rfl, _⟩ := hmi
      obtain ⟨av, cv, rfl, _⟩ := hmv
      obtain ⟨ap, cp, _, rfl, _⟩ := hmp
      obtain ⟨ab, cb, _, rfl, _⟩ := hmb
      obtain ⟨wF, hwF, hcF, hbF⟩ := set5 (str m.name) (.slice ai m.imports.length ci) (.slice av m.vars.length cv) (.slice ap m.procs.length cp) (.slice ab m.body.len cb) hbm4
      have hpF := hp4.kept hcF (fun x hx => by simp at hx; omega) (by simp; omega) (by simp; omega)
      have hbeF := hbe4.kept hcF (by simp)
      have HPF := Lib.hid hpF; have HBF := Lib.hid hbF; have HBEF := Lib.hid hbeF; have HCF := Lib.hid hcF; have HCW := Lib.hid hcw4
      have g0 := hbF.cell 0 _ rfl; have g1 := hbF.cell 1 _ rfl; have g2 := hbF.cell 2 _ rfl; have g3 := hbF.cell 3 _ rfl; have g4 := hbF.cell 4 _ rfl
      have k0 := hbF.frozen 0; have k1 := hbF.frozen 1; have k2 := hbF.frozen 2; have k3 := hbF.frozen 3; have k4 := hbF.frozen 4
      have ge := hbeF.cell 0 _ rfl; have ke := hbeF.frozen 0
      clear hc4 hbe4 hbm4 hcF hp4 hbeF hbF hcw4
      cases ts' with
      | nil =>
        have HRR := Lib.hid (show parse l = .ok m by rw [parse, HLX.out]; simp only [HMX.out])
        obtain ⟨o2, c2, p0, p1, _, hl2⟩ := par_nil hpF
        obtain ⟨wG, hwG, hcG, hbG⟩ := set5 (str m.name) (.slice ai m.imports.length ci) (.slice av m.vars.length cv) (.slice ap m.procs.length cp) (.slice ab m.body.len cb) HBF.out
        have hbeG := HBEF.out.kept hcG (by simp)
        have geG := hbeG.cell 0 _ rfl; have keG := hbeG.frozen 0
        obtain ⟨wH, hwH⟩ : ∃ wH, wG.setCell ⟨w.heap.size + 1, 0, none⟩ .nilIface = wH := ⟨_, rfl⟩
        have hcH : Chg [w.heap.size + 1] wG wH := by rw [← hwH]; exact Chg.set1 _ _ _ _
        have hbeH : Blk wH (w.heap.size + 1) #[.nilIface] 28 := by rw [← hwH]; simpa using hbeG.set 0 .nilIface
        have hbmH := hbG.kept hcH (by simp)
        have hcF' := HCF.out.trans hcG (fun x hx => .inl hx)
        have hMH : ModAt wH (New w wH) m (.agg #[str m.name, .slice ai m.imports.length ci, .slice av m.vars.length cv, .slice ap m.procs.length cp, .slice ab m.body.len cb]) := by
          have hsF := hcF'.size; have hsH := hcH.size
          refine ((HMA.out.kept hcF' (fun x hx hn => ?_)).kept hcH (fun x hx hn => ?_)).mono (fun x hx => ⟨by have := hx.1; omega, by have := hx.2; omega⟩)
          · simp at hx; have := hn.1; omega
          · simp at hx; have := hn.1; omega
        have HBMH := Lib.hid hbmH; have HBEH := Lib.hid hbeH; have HMH := Lib.hid hMH
        have HCH := Lib.hid ((HCW.out.trans hcF' (fun x hx => .inr (by simp at hx; omega))).trans hcH (fun x hx => .inr (by simp at hx; omega)))
        clear hpF hcG hbG hbeG hcH hbeH hbmH hcF' hMH
        go_wp2_with fail
        exact leave_idle _ _ _ _ _ _ _ _ _ _ _ rfl rfl HBMH.out HBEH.out (by rw [HRR.out]; exact ⟨HCH.out, _, rfl, HMH.out⟩)
      | cons t r =>
        have HRR := Lib.hid (show parse l = .bad 3 t.pos by rw [parse, HLX.out]; simp only [HMX.out])
        obtain ⟨o2, c2, hpb, p0, p1, p2, p3, hl2, _⟩ := par_cons hpF
        have hkn := kind_ne t.kind
        have HFA := Lib.hid (fail_any 3 wF B w1.heap.size bt l.length (t :: r) hpF)
        clear hpF hpb
        go_wp2_with fail
        refine HFA.out.mono ?_; intro e w9 he
        obtain ⟨b9, rfl⟩ := he.thrown
        have HEE := Lib.hid he
        clear he
        go_wp2_with fail
        obtain ⟨hc9, b, hbe9, hlt9, hb9⟩ := HEE.out
        cases hbe9
        have hsF := HCF.out.size
        refine leave_thrown _ _ _ _ _ _ _ _ _ _ _ _ rfl rfl (HBF.out.kept hc9 (by simp; omega)) (HBEF.out.kept hc9 (by simp; omega)) (by omega) (fun w' hc => ?_)
        rw [HRR.out]
        exact ⟨((HCW.out.trans HCF.out (fun x hx => .inr (by simp at hx; omega))).trans hc9 (fun x hx => .inr (by simp at hx; omega))).trans hc (fun x hx => .inr (by simp at hx; omega)), _, rfl, by omega, hb9.kept hc (by simp; omega)⟩
end Go.Proofs.YtgnfhognbpifiaaGreatDoor
