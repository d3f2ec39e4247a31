/- The checker's stmt and body. -/
import Derived.Test.YtoeblajmelbbmaaGreatDoorCheckW5
namespace Go.Mq.Check
open Go Go.RowKit Go.Mq Go.Mq.Tree Go.Mq.Sym
theorem set7C {w : World} {b : Nat} (v0 v1 v2 v3 v4 v5 v6 : Value) {u0 u1 u2 u3 u4 u5 u6 : Value} {t : TypeId} (h : Blk w b #[u0, u1, u2, u3, u4, u5, u6] t) : ∃ wF, (((((((w.setCell ⟨b, 0, none⟩ v0).setCell ⟨b, 1, none⟩ v1).setCell ⟨b, 2, none⟩ v2).setCell ⟨b, 3, none⟩ v3).setCell ⟨b, 4, none⟩ v4).setCell ⟨b, 5, none⟩ v5).setCell ⟨b, 6, none⟩ v6) = wF ∧ Chg [b] w wF ∧ Blk wF b #[v0, v1, v2, v3, v4, v5, v6] t :=
  ⟨_, rfl, ((((((Chg.set1 _ _ _ _).then (Chg.set1 _ _ _ _)).then (Chg.set1 _ _ _ _)).then (Chg.set1 _ _ _ _)).then (Chg.set1 _ _ _ _)).then (Chg.set1 _ _ _ _)).then (Chg.set1 _ _ _ _), by
    have := ((((((h.set 0 v0).set 1 v1).set 2 v2).set 3 v3).set 4 v4).set 5 v5).set 6 v6
    simpa using this⟩
theorem cells7C {w : World} {F : Nat → Prop} {a : Option Addr} {cs1 cs' : List Value} {c0 c1 c2 c3 c4 c5 c6 : Value} {k : Nat} (h : Row w F a (cs1 ++ c0 :: c1 :: c2 :: c3 :: c4 :: c5 :: c6 :: cs')) (hl : cs1.length = k * 7) :
    ∃ bb off, a = some ⟨bb, off, none⟩ ∧ w.cell? ⟨bb, off + k * 7, none⟩ = some c0 ∧ w.cell? ⟨bb, off + k * 7 + 1, none⟩ = some c1 ∧ w.cell? ⟨bb, off + k * 7 + 2, none⟩ = some c2 ∧ w.cell? ⟨bb, off + k * 7 + 3, none⟩ = some c3 ∧ w.cell? ⟨bb, off + k * 7 + 4, none⟩ = some c4 ∧ w.cell? ⟨bb, off + k * 7 + 5, none⟩ = some c5 ∧ w.cell? ⟨bb, off + k * 7 + 6, none⟩ = some c6 := by
  obtain ⟨bb, off, rfl, hc⟩ := h.at_ (by simp only [List.length_append, List.length_cons]; omega)
  have g : ∀ i v, (c0 :: c1 :: c2 :: c3 :: c4 :: c5 :: c6 :: cs')[i]? = some v → w.cell? ⟨bb, off + k * 7 + i, none⟩ = some v := fun i v hv => by
    rw [Nat.add_assoc]
    refine hc (k * 7 + i) v ?_
    rw [← hl, List.getElem?_append_right (by omega), Nat.add_sub_cancel_left]
    exact hv
  exact ⟨bb, off, rfl, by simpa using g 0 _ rfl, g 1 _ rfl, g 2 _ rfl, g 3 _ rfl, g 4 _ rfl, g 5 _ rfl, g 6 _ rfl⟩
/-- What holds of all that stands within. -/
def AllB (P : S → Prop) : S → Prop
  | .nil => True
  | .set _ _ _ _ r => AllB P r
  | .ifs _ _ t e r => P t ∧ P e ∧ AllB P r
  | .whil _ _ t r => P t ∧ AllB P r
  | .ret _ _ r => AllB P r
  | .wri _ _ r => AllB P r
  | .call _ _ r => AllB P r
theorem EnvAt.mono {w : World} {F G : Nat → Prop} {c : Env} {bc : Nat} (h : EnvAt w F c bc) (hF : ∀ x, F x → G x) : EnvAt w G c bc := by
  obtain ⟨nm, vi, vv, vp, vb, vm, vl, h1, h2, h3, ⟨a, k, cs, h4, h5, h6, h7⟩, h8, h9⟩ := h.at_
  exact ⟨hF _ h.own, h.fewi, h.fewl, h.fewv, h.fewp, nm, vi, vv, vp, vb, vm, vl, h1, h2.mono hF, h3.mono hF, ⟨a, k, cs, h4, h5, h6.mono hF, h7⟩, h8.mono hF, h9.mono hF⟩
end Go.Mq.Check
namespace Go.Proofs.YtoeblajmelbbmaaGreatDoor
open Go Go.RowKit Go.Mq Go.Mq.Tree Go.Mq.Sym Go.Mq.Check
set_option maxRecDepth 100000
set_option maxHeartbeats 2000000
/-- What a callee does, whenever it is called. -/
abbrev Does (f : Nat) (bc : Nat) (v : Value) (w : World) (r : Look) : Prop := ∀ w', Chg [] w w' → Calls Tryz.prog f #[ptr bc, v] w' (Looked [] w' r)
theorem stmt_any (bc p n1 k1 n2 k2 : Nat) (nm : List UInt8) (uv : Value) (a1 a2 : Option Addr) (w : World) (code : Nat) (hcode : code ≠ 1) (ui : Value) (L2 L3 L4 : Look) (K2 : Does 58 bc uv w L2) (K3 : Does 25 bc (.slice a1 n1 k1) w L3) (K4 : Does 25 bc (.slice a2 n2 k2) w L4) :
    Calls Tryz.prog 43 #[ptr bc, .agg #[.int .i64 code, .int .i64 p, str nm, ui, uv, .slice a1 n1 k1, .slice a2 n2 k2]] w (Looked [] w (L2.or (L3.or L4))) := by
  have hcd : ((code : Int) == 1) = false := by simp; omega
  have hcd2 : decide ((code : Int) = 1) = false := by simp; omega
  obtain ⟨tgt, htgt⟩ : ∃ t, t = L2.or (L3.or L4) := ⟨_, rfl⟩
  rw [← htgt]
  have HTG := Lib.hid htgt
  have K2 := Lib.hid K2; have K3 := Lib.hid K3; have K4 := Lib.hid K4
  obtain ⟨wS, hwS⟩ : ∃ x, w.alloc (.cells #[.int .i64 code, .int .i64 p, str nm, ui, uv, .slice a1 n1 k1, .slice a2 n2 k2] 102) = x := ⟨_, rfl⟩
  have hsb := Blk.new w #[.int .i64 code, .int .i64 p, str nm, ui, uv, .slice a1 n1 k1, .slice a2 n2 k2] 102
  have hcs : Chg [] w wS := by rw [← hwS]; exact (Chg.refl _ _).alloc _
  rw [hwS] at hsb
  have HSB := Lib.hid hsb; have HCW := Lib.hid hcs
  clear hsb hcs htgt
  have s0 : wS.cell? ⟨w.heap.size, 0, none⟩ = _ := HSB.out.cell 0 _ rfl
  have s1 : wS.cell? ⟨w.heap.size, 1, none⟩ = _ := HSB.out.cell 1 _ rfl
  have s2 : wS.cell? ⟨w.heap.size, 2, none⟩ = _ := HSB.out.cell 2 _ rfl
  have s3 : wS.cell? ⟨w.heap.size, 3, none⟩ = _ := HSB.out.cell 3 _ rfl
  have s4 : wS.cell? ⟨w.heap.size, 4, none⟩ = _ := HSB.out.cell 4 _ rfl
  have s5 : wS.cell? ⟨w.heap.size, 5, none⟩ = _ := HSB.out.cell 5 _ rfl
  have s6 : wS.cell? ⟨w.heap.size, 6, none⟩ = _ := HSB.out.cell 6 _ rfl
  clear hcode
  go_enter Tryz.func43, Tryz.ntmps43
  go_wp2_with fail
  clear hwS hcd hcd2
  have HK := Lib.hid (K2.out wS HCW.out)
  rcases L2 with _ | ⟨en, q⟩
  · refine (HK.out).mono ?_
    rintro _ w40 ⟨hc, rfl⟩
    have hWD : Chg [] wS w40 := hc
    have HSB := Lib.hid (HSB.out.kept hWD (by simp)); have HCW := Lib.hid (HCW.out.then hWD)
    clear hWD
    clear hc HK
    clear s0 s1 s2 s3 s4 s5 s6
    have s0 : w40.cell? ⟨w.heap.size, 0, none⟩ = _ := HSB.out.cell 0 _ rfl
    have s1 : w40.cell? ⟨w.heap.size, 1, none⟩ = _ := HSB.out.cell 1 _ rfl
    have s2 : w40.cell? ⟨w.heap.size, 2, none⟩ = _ := HSB.out.cell 2 _ rfl
    have s3 : w40.cell? ⟨w.heap.size, 3, none⟩ = _ := HSB.out.cell 3 _ rfl
    have s4 : w40.cell? ⟨w.heap.size, 4, none⟩ = _ := HSB.out.cell 4 _ rfl
    have s5 : w40.cell? ⟨w.heap.size, 5, none⟩ = _ := HSB.out.cell 5 _ rfl
    have s6 : w40.cell? ⟨w.heap.size, 6, none⟩ = _ := HSB.out.cell 6 _ rfl
    go_wp2_with fail
    have HK := Lib.hid (K3.out w40 HCW.out)
    rcases L3 with _ | ⟨en, q⟩
    · refine (HK.out).mono ?_
      rintro _ w50 ⟨hc, rfl⟩
      have hWD : Chg [] w40 w50 := hc
      have HSB := Lib.hid (HSB.out.kept hWD (by simp)); have HCW := Lib.hid (HCW.out.then hWD)
      clear hWD
      clear hc HK
      clear s0 s1 s2 s3 s4 s5 s6
      have s0 : w50.cell? ⟨w.heap.size, 0, none⟩ = _ := HSB.out.cell 0 _ rfl
      have s1 : w50.cell? ⟨w.heap.size, 1, none⟩ = _ := HSB.out.cell 1 _ rfl
      have s2 : w50.cell? ⟨w.heap.size, 2, none⟩ = _ := HSB.out.cell 2 _ rfl
      have s3 : w50.cell? ⟨w.heap.size, 3, none⟩ = _ := HSB.out.cell 3 _ rfl
      have s4 : w50.cell? ⟨w.heap.size, 4, none⟩ = _ := HSB.out.cell 4 _ rfl
      have s5 : w50.cell? ⟨w.heap.size, 5, none⟩ = _ := HSB.out.cell 5 _ rfl
      have s6 : w50.cell? ⟨w.heap.size, 6, none⟩ = _ := HSB.out.cell 6 _ rfl
      go_wp2_with fail
      have HK := Lib.hid (K4.out w50 HCW.out)
      rcases L4 with _ | ⟨en, q⟩
      · refine (HK.out).mono ?_
        rintro _ w60 ⟨hc, rfl⟩
        have hWD : Chg [] w50 w60 := hc
        have HSB := Lib.hid (HSB.out.kept hWD (by simp)); have HCW := Lib.hid (HCW.out.then hWD)
        clear hWD
        clear hc HK
        clear s0 s1 s2 s3 s4 s5 s6
        have s0 : w60.cell? ⟨w.heap.size, 0, none⟩ = _ := HSB.out.cell 0 _ rfl
        have s1 : w60.cell? ⟨w.heap.size, 1, none⟩ = _ := HSB.out.cell 1 _ rfl
        have s2 : w60.cell? ⟨w.heap.size, 2, none⟩ = _ := HSB.out.cell 2 _ rfl
        have s3 : w60.cell? ⟨w.heap.size, 3, none⟩ = _ := HSB.out.cell 3 _ rfl
        have s4 : w60.cell? ⟨w.heap.size, 4, none⟩ = _ := HSB.out.cell 4 _ rfl
        have s5 : w60.cell? ⟨w.heap.size, 5, none⟩ = _ := HSB.out.cell 5 _ rfl
        have s6 : w60.cell? ⟨w.heap.size, 6, none⟩ = _ := HSB.out.cell 6 _ rfl
        go_wp2_with fail
        refine bodyPost_end (results_none rfl _ _ _) rfl ?_
        rw [HTG.out]
        exact ⟨HCW.out, rfl⟩
      · refine (HK.out).mono ?_
        rintro _ w9 ⟨hc, b9, rfl, hl9, hb9⟩
        have HC9 := Lib.hid (HCW.out.then hc); have HB9 := Lib.hid hb9; have HL9 := Lib.hid hl9
        have hsz := HCW.out.size
        clear hc hb9 hl9
        go_wp2_with fail
        rw [HTG.out]
        exact ⟨rfl, HC9.out, b9, rfl, by have := HL9.out; omega, HB9.out⟩
    · refine (HK.out).mono ?_
      rintro _ w9 ⟨hc, b9, rfl, hl9, hb9⟩
      have HC9 := Lib.hid (HCW.out.then hc); have HB9 := Lib.hid hb9; have HL9 := Lib.hid hl9
      have hsz := HCW.out.size
      clear hc hb9 hl9
      go_wp2_with fail
      rw [HTG.out]
      exact ⟨rfl, HC9.out, b9, rfl, by have := HL9.out; omega, HB9.out⟩
  · refine (HK.out).mono ?_
    rintro _ w9 ⟨hc, b9, rfl, hl9, hb9⟩
    have HC9 := Lib.hid (HCW.out.then hc); have HB9 := Lib.hid hb9; have HL9 := Lib.hid hl9
    have hsz := HCW.out.size
    clear hc hb9 hl9
    go_wp2_with fail
    rw [HTG.out]
    exact ⟨rfl, HC9.out, b9, rfl, by have := HL9.out; omega, HB9.out⟩
theorem stmt_set0 (bc p n1 k1 n2 k2 : Nat) (nm : List UInt8) (uv : Value) (a1 a2 : Option Addr) (w : World) (L1 L2 L3 L4 : Look) (K1 : ∀ w' b, Chg [] w w' → w.heap.size ≤ b → Blk w' b #[.int .i64 2, .int .i64 p, .int .i64 0, str [], str nm, str [], nilp, nilp, nils] 125 → Calls Tryz.prog 58 #[ptr bc, ptr b] w' (Looked [] w' L1)) (K2 : Does 58 bc uv w L2) (K3 : Does 25 bc (.slice a1 n1 k1) w L3) (K4 : Does 25 bc (.slice a2 n2 k2) w L4) :
    Calls Tryz.prog 43 #[ptr bc, .agg #[.int .i64 1, .int .i64 p, str nm, nilp, uv, .slice a1 n1 k1, .slice a2 n2 k2]] w (Looked [] w (L1.or (L2.or (L3.or L4)))) := by
  obtain ⟨tgt, htgt⟩ : ∃ t, t = L1.or (L2.or (L3.or L4)) := ⟨_, rfl⟩
  rw [← htgt]
  have HTG := Lib.hid htgt
  have K2 := Lib.hid K2; have K3 := Lib.hid K3; have K4 := Lib.hid K4
  obtain ⟨wS, hwS⟩ : ∃ x, w.alloc (.cells #[.int .i64 1, .int .i64 p, str nm, nilp, uv, .slice a1 n1 k1, .slice a2 n2 k2] 102) = x := ⟨_, rfl⟩
  have hsb := Blk.new w #[.int .i64 1, .int .i64 p, str nm, nilp, uv, .slice a1 n1 k1, .slice a2 n2 k2] 102
  have hcs : Chg [] w wS := by rw [← hwS]; exact (Chg.refl _ _).alloc _
  rw [hwS] at hsb
  have HSB := Lib.hid hsb; have HCW := Lib.hid hcs
  clear hsb hcs htgt
  have s0 : wS.cell? ⟨w.heap.size, 0, none⟩ = _ := HSB.out.cell 0 _ rfl
  have s1 : wS.cell? ⟨w.heap.size, 1, none⟩ = _ := HSB.out.cell 1 _ rfl
  have s2 : wS.cell? ⟨w.heap.size, 2, none⟩ = _ := HSB.out.cell 2 _ rfl
  have s3 : wS.cell? ⟨w.heap.size, 3, none⟩ = _ := HSB.out.cell 3 _ rfl
  have s4 : wS.cell? ⟨w.heap.size, 4, none⟩ = _ := HSB.out.cell 4 _ rfl
  have s5 : wS.cell? ⟨w.heap.size, 5, none⟩ = _ := HSB.out.cell 5 _ rfl
  have s6 : wS.cell? ⟨w.heap.size, 6, none⟩ = _ := HSB.out.cell 6 _ rfl
  have K1 := Lib.hid K1
  have hb := Blk.new wS #[.int .i64 2, .int .i64 p, .int .i64 0, str [], str nm, str [], nilp, nilp, nils] 125
  obtain ⟨wB, hwB⟩ : ∃ x, wS.alloc (.cells #[.int .i64 2, .int .i64 p, .int .i64 0, str [], str nm, str [], nilp, nilp, nils] 125) = x := ⟨_, rfl⟩
  rw [hwB] at hb
  have hcB : Chg [] wS wB := by rw [← hwB]; exact (Chg.refl _ _).alloc _
  have hsz := HCW.out.size
  have HXB := Lib.hid hb
  have t3 : wB.cell? ⟨w.heap.size, 3, none⟩ = _ := hcB.cellSome s3 (by simp)
  clear hb
  go_enter Tryz.func43, Tryz.ntmps43
  go_wp2_with fail
  clear hwS hwB t3
  clear s0 s1 s2 s3 s4 s5 s6
  have hWD : Chg [] wS wB := hcB
  have HSB := Lib.hid (HSB.out.kept hWD (by simp)); have HCW := Lib.hid (HCW.out.then hWD)
  clear hWD
  have s0 : wB.cell? ⟨w.heap.size, 0, none⟩ = _ := HSB.out.cell 0 _ rfl
  have s1 : wB.cell? ⟨w.heap.size, 1, none⟩ = _ := HSB.out.cell 1 _ rfl
  have s2 : wB.cell? ⟨w.heap.size, 2, none⟩ = _ := HSB.out.cell 2 _ rfl
  have s3 : wB.cell? ⟨w.heap.size, 3, none⟩ = _ := HSB.out.cell 3 _ rfl
  have s4 : wB.cell? ⟨w.heap.size, 4, none⟩ = _ := HSB.out.cell 4 _ rfl
  have s5 : wB.cell? ⟨w.heap.size, 5, none⟩ = _ := HSB.out.cell 5 _ rfl
  have s6 : wB.cell? ⟨w.heap.size, 6, none⟩ = _ := HSB.out.cell 6 _ rfl
  have K1 := Lib.hid (show Calls Tryz.prog 58 #[ptr bc, ptr wS.heap.size] wB (Looked [] wB L1) from K1.out wB _ HCW.out (by omega) HXB.out)
  have HK := K1
  rcases L1 with _ | ⟨en, q⟩
  · refine (HK.out).mono ?_
    rintro _ w30 ⟨hc, rfl⟩
    have hWD : Chg [] wB w30 := hc
    have HSB := Lib.hid (HSB.out.kept hWD (by simp)); have HCW := Lib.hid (HCW.out.then hWD)
    clear hWD
    clear hc HK
    clear s0 s1 s2 s3 s4 s5 s6
    have s0 : w30.cell? ⟨w.heap.size, 0, none⟩ = _ := HSB.out.cell 0 _ rfl
    have s1 : w30.cell? ⟨w.heap.size, 1, none⟩ = _ := HSB.out.cell 1 _ rfl
    have s2 : w30.cell? ⟨w.heap.size, 2, none⟩ = _ := HSB.out.cell 2 _ rfl
    have s3 : w30.cell? ⟨w.heap.size, 3, none⟩ = _ := HSB.out.cell 3 _ rfl
    have s4 : w30.cell? ⟨w.heap.size, 4, none⟩ = _ := HSB.out.cell 4 _ rfl
    have s5 : w30.cell? ⟨w.heap.size, 5, none⟩ = _ := HSB.out.cell 5 _ rfl
    have s6 : w30.cell? ⟨w.heap.size, 6, none⟩ = _ := HSB.out.cell 6 _ rfl
    go_wp2_with fail
    have HK := Lib.hid (K2.out w30 HCW.out)
    rcases L2 with _ | ⟨en, q⟩
    · refine (HK.out).mono ?_
      rintro _ w40 ⟨hc, rfl⟩
      have hWD : Chg [] w30 w40 := hc
      have HSB := Lib.hid (HSB.out.kept hWD (by simp)); have HCW := Lib.hid (HCW.out.then hWD)
      clear hWD
      clear hc HK
      clear s0 s1 s2 s3 s4 s5 s6
      have s0 : w40.cell? ⟨w.heap.size, 0, none⟩ = _ := HSB.out.cell 0 _ rfl
      have s1 : w40.cell? ⟨w.heap.size, 1, none⟩ = _ := HSB.out.cell 1 _ rfl
      have s2 : w40.cell? ⟨w.heap.size, 2, none⟩ = _ := HSB.out.cell 2 _ rfl
      have s3 : w40.cell? ⟨w.heap.size, 3, none⟩ = _ := HSB.out.cell 3 _ rfl
      have s4 : w40.cell? ⟨w.heap.size, 4, none⟩ = _ := HSB.out.cell 4 _ rfl
      have s5 : w40.cell? ⟨w.heap.size, 5, none⟩ = _ := HSB.out.cell 5 _ rfl
      have s6 : w40.cell? ⟨w.heap.size, 6, none⟩ = _ := HSB.out.cell 6 _ rfl
      go_wp2_with fail
      have HK := Lib.hid (K3.out w40 HCW.out)
      rcases L3 with _ | ⟨en, q⟩
      · refine (HK.out).mono ?_
        rintro _ w50 ⟨hc, rfl⟩
        have hWD : Chg [] w40 w50 := hc
        have HSB := Lib.hid (HSB.out.kept hWD (by simp)); have HCW := Lib.hid (HCW.out.then hWD)
        clear hWD
        clear hc HK
        clear s0 s1 s2 s3 s4 s5 s6
        have s0 : w50.cell? ⟨w.heap.size, 0, none⟩ = _ := HSB.out.cell 0 _ rfl
        have s1 : w50.cell? ⟨w.heap.size, 1, none⟩ = _ := HSB.out.cell 1 _ rfl
        have s2 : w50.cell? ⟨w.heap.size, 2, none⟩ = _ := HSB.out.cell 2 _ rfl
        have s3 : w50.cell? ⟨w.heap.size, 3, none⟩ = _ := HSB.out.cell 3 _ rfl
        have s4 : w50.cell? ⟨w.heap.size, 4, none⟩ = _ := HSB.out.cell 4 _ rfl
        have s5 : w50.cell? ⟨w.heap.size, 5, none⟩ = _ := HSB.out.cell 5 _ rfl
        have s6 : w50.cell? ⟨w.heap.size, 6, none⟩ = _ := HSB.out.cell 6 _ rfl
        go_wp2_with fail
        have HK := Lib.hid (K4.out w50 HCW.out)
        rcases L4 with _ | ⟨en, q⟩
        · refine (HK.out).mono ?_
          rintro _ w60 ⟨hc, rfl⟩
          have hWD : Chg [] w50 w60 := hc
          have HSB := Lib.hid (HSB.out.kept hWD (by simp)); have HCW := Lib.hid (HCW.out.then hWD)
          clear hWD
          clear hc HK
          clear s0 s1 s2 s3 s4 s5 s6
          have s0 : w60.cell? ⟨w.heap.size, 0, none⟩ = _ := HSB.out.cell 0 _ rfl
          have s1 : w60.cell? ⟨w.heap.size, 1, none⟩ = _ := HSB.out.cell 1 _ rfl
          have s2 : w60.cell? ⟨w.heap.size, 2, none⟩ = _ := HSB.out.cell 2 _ rfl
          have s3 : w60.cell? ⟨w.heap.size, 3, none⟩ = _ := HSB.out.cell 3 _ rfl
          have s4 : w60.cell? ⟨w.heap.size, 4, none⟩ = _ := HSB.out.cell 4 _ rfl
          have s5 : w60.cell? ⟨w.heap.size, 5, none⟩ = _ := HSB.out.cell 5 _ rfl
          have s6 : w60.cell? ⟨w.heap.size, 6, none⟩ = _ := HSB.out.cell 6 _ rfl
          go_wp2_with fail
          refine bodyPost_end (results_none rfl _ _ _) rfl ?_
          rw [HTG.out]
          exact ⟨HCW.out, rfl⟩
        · refine (HK.out).mono ?_
          rintro _ w9 ⟨hc, b9, rfl, hl9, hb9⟩
          have HC9 := Lib.hid (HCW.out.then hc); have HB9 := Lib.hid hb9; have HL9 := Lib.hid hl9
          have hsz := HCW.out.size
          clear hc hb9 hl9
          go_wp2_with fail
          rw [HTG.out]
          exact ⟨rfl, HC9.out, b9, rfl, by have := HL9.out; omega, HB9.out⟩
      · refine (HK.out).mono ?_
        rintro _ w9 ⟨hc, b9, rfl, hl9, hb9⟩
        have HC9 := Lib.hid (HCW.out.then hc); have HB9 := Lib.hid hb9; have HL9 := Lib.hid hl9
        have hsz := HCW.out.size
        clear hc hb9 hl9
        go_wp2_with fail
        rw [HTG.out]
        exact ⟨rfl, HC9.out, b9, rfl, by have := HL9.out; omega, HB9.out⟩
    · refine (HK.out).mono ?_
      rintro _ w9 ⟨hc, b9, rfl, hl9, hb9⟩
      have HC9 := Lib.hid (HCW.out.then hc); have HB9 := Lib.hid hb9; have HL9 := Lib.hid hl9
      have hsz := HCW.out.size
      clear hc hb9 hl9
      go_wp2_with fail
      rw [HTG.out]
      exact ⟨rfl, HC9.out, b9, rfl, by have := HL9.out; omega, HB9.out⟩
  · refine (HK.out).mono ?_
    rintro _ w9 ⟨hc, b9, rfl, hl9, hb9⟩
    have HC9 := Lib.hid (HCW.out.then hc); have HB9 := Lib.hid hb9; have HL9 := Lib.hid hl9
    have hsz := HCW.out.size
    clear hc hb9 hl9
    go_wp2_with fail
    rw [HTG.out]
    exact ⟨rfl, HC9.out, b9, rfl, by have := HL9.out; omega, HB9.out⟩
theorem stmt_set1 (bc p n1 k1 n2 k2 : Nat) (nm : List UInt8) (uv : Value) (a1 a2 : Option Addr) (w : World) (bi : Nat) (L1 L2 L3 L4 : Look) (K1 : ∀ w' b, Chg [] w w' → w.heap.size ≤ b → Blk w' b #[.int .i64 3, .int .i64 p, .int .i64 0, str [], str nm, str [], (ptr bi), nilp, nils] 125 → Calls Tryz.prog 58 #[ptr bc, ptr b] w' (Looked [] w' L1)) (K2 : Does 58 bc uv w L2) (K3 : Does 25 bc (.slice a1 n1 k1) w L3) (K4 : Does 25 bc (.slice a2 n2 k2) w L4) :
    Calls Tryz.prog 43 #[ptr bc, .agg #[.int .i64 1, .int .i64 p, str nm, (ptr bi), uv, .slice a1 n1 k1, .slice a2 n2 k2]] w (Looked [] w (L1.or (L2.or (L3.or L4)))) := by
  obtain ⟨tgt, htgt⟩ : ∃ t, t = L1.or (L2.or (L3.or L4)) := ⟨_, rfl⟩
  rw [← htgt]
  have HTG := Lib.hid htgt
  have K2 := Lib.hid K2; have K3 := Lib.hid K3; have K4 := Lib.hid K4
  obtain ⟨wS, hwS⟩ : ∃ x, w.alloc (.cells #[.int .i64 1, .int .i64 p, str nm, (ptr bi), uv, .slice a1 n1 k1, .slice a2 n2 k2] 102) = x := ⟨_, rfl⟩
  have hsb := Blk.new w #[.int .i64 1, .int .i64 p, str nm, (ptr bi), uv, .slice a1 n1 k1, .slice a2 n2 k2] 102
  have hcs : Chg [] w wS := by rw [← hwS]; exact (Chg.refl _ _).alloc _
  rw [hwS] at hsb
  have HSB := Lib.hid hsb; have HCW := Lib.hid hcs
  clear hsb hcs htgt
  have s0 : wS.cell? ⟨w.heap.size, 0, none⟩ = _ := HSB.out.cell 0 _ rfl
  have s1 : wS.cell? ⟨w.heap.size, 1, none⟩ = _ := HSB.out.cell 1 _ rfl
  have s2 : wS.cell? ⟨w.heap.size, 2, none⟩ = _ := HSB.out.cell 2 _ rfl
  have s3 : wS.cell? ⟨w.heap.size, 3, none⟩ = _ := HSB.out.cell 3 _ rfl
  have s4 : wS.cell? ⟨w.heap.size, 4, none⟩ = _ := HSB.out.cell 4 _ rfl
  have s5 : wS.cell? ⟨w.heap.size, 5, none⟩ = _ := HSB.out.cell 5 _ rfl
  have s6 : wS.cell? ⟨w.heap.size, 6, none⟩ = _ := HSB.out.cell 6 _ rfl
  have K1 := Lib.hid K1
  have hb := Blk.new wS #[.int .i64 2, .int .i64 p, .int .i64 0, str [], str nm, str [], (ptr bi), nilp, nils] 125
  obtain ⟨wB, hwB⟩ : ∃ x, wS.alloc (.cells #[.int .i64 2, .int .i64 p, .int .i64 0, str [], str nm, str [], (ptr bi), nilp, nils] 125) = x := ⟨_, rfl⟩
  rw [hwB] at hb
  have hcB : Chg [] wS wB := by rw [← hwB]; exact (Chg.refl _ _).alloc _
  have hsz := HCW.out.size
  have y0 := hb.frozen 0; have z0 := hb.cell 0 _ rfl
  obtain ⟨wC, hwC⟩ : ∃ x, wB.setCell ⟨wS.heap.size, 0, none⟩ (.int .i64 3) = x := ⟨_, rfl⟩
  have hcC : Chg [wS.heap.size] wB wC := by rw [← hwC]; exact Chg.set1 _ _ _ _
  have hbC : Blk wC wS.heap.size #[.int .i64 3, .int .i64 p, .int .i64 0, str [], str nm, str [], (ptr bi), nilp, nils] 125 := by rw [← hwC]; simpa using hb.set 0 (.int .i64 3)
  have hcD : Chg [] wS wC := hcB.trans hcC (fun x hx => .inr (by simp at hx; omega))
  have HXB := Lib.hid hbC
  have t3 : wB.cell? ⟨w.heap.size, 3, none⟩ = _ := hcB.cellSome s3 (by simp)
  clear hb hcB hcC hbC
  go_enter Tryz.func43, Tryz.ntmps43
  go_wp2_with fail
  clear hwS hwB hwC y0 z0 t3
  clear s0 s1 s2 s3 s4 s5 s6
  have hWD : Chg [] wS wC := hcD
  have HSB := Lib.hid (HSB.out.kept hWD (by simp)); have HCW := Lib.hid (HCW.out.then hWD)
  clear hWD
  have s0 : wC.cell? ⟨w.heap.size, 0, none⟩ = _ := HSB.out.cell 0 _ rfl
  have s1 : wC.cell? ⟨w.heap.size, 1, none⟩ = _ := HSB.out.cell 1 _ rfl
  have s2 : wC.cell? ⟨w.heap.size, 2, none⟩ = _ := HSB.out.cell 2 _ rfl
  have s3 : wC.cell? ⟨w.heap.size, 3, none⟩ = _ := HSB.out.cell 3 _ rfl
  have s4 : wC.cell? ⟨w.heap.size, 4, none⟩ = _ := HSB.out.cell 4 _ rfl
  have s5 : wC.cell? ⟨w.heap.size, 5, none⟩ = _ := HSB.out.cell 5 _ rfl
  have s6 : wC.cell? ⟨w.heap.size, 6, none⟩ = _ := HSB.out.cell 6 _ rfl
  have K1 := Lib.hid (show Calls Tryz.prog 58 #[ptr bc, ptr wS.heap.size] wC (Looked [] wC L1) from K1.out wC _ HCW.out (by omega) HXB.out)
  have HK := K1
  rcases L1 with _ | ⟨en, q⟩
  · refine (HK.out).mono ?_
    rintro _ w30 ⟨hc, rfl⟩
    have hWD : Chg [] wC w30 := hc
    have HSB := Lib.hid (HSB.out.kept hWD (by simp)); have HCW := Lib.hid (HCW.out.then hWD)
    clear hWD
    clear hc HK
    clear s0 s1 s2 s3 s4 s5 s6
    have s0 : w30.cell? ⟨w.heap.size, 0, none⟩ = _ := HSB.out.cell 0 _ rfl
    have s1 : w30.cell? ⟨w.heap.size, 1, none⟩ = _ := HSB.out.cell 1 _ rfl
    have s2 : w30.cell? ⟨w.heap.size, 2, none⟩ = _ := HSB.out.cell 2 _ rfl
    have s3 : w30.cell? ⟨w.heap.size, 3, none⟩ = _ := HSB.out.cell 3 _ rfl
    have s4 : w30.cell? ⟨w.heap.size, 4, none⟩ = _ := HSB.out.cell 4 _ rfl
    have s5 : w30.cell? ⟨w.heap.size, 5, none⟩ = _ := HSB.out.cell 5 _ rfl
    have s6 : w30.cell? ⟨w.heap.size, 6, none⟩ = _ := HSB.out.cell 6 _ rfl
    go_wp2_with fail
    have HK := Lib.hid (K2.out w30 HCW.out)
    rcases L2 with _ | ⟨en, q⟩
    · refine (HK.out).mono ?_
      rintro _ w40 ⟨hc, rfl⟩
      have hWD : Chg [] w30 w40 := hc
      have HSB := Lib.hid (HSB.out.kept hWD (by simp)); have HCW := Lib.hid (HCW.out.then hWD)
      clear hWD
      clear hc HK
      clear s0 s1 s2 s3 s4 s5 s6
      have s0 : w40.cell? ⟨w.heap.size, 0, none⟩ = _ := HSB.out.cell 0 _ rfl
      have s1 : w40.cell? ⟨w.heap.size, 1, none⟩ = _ := HSB.out.cell 1 _ rfl
      have s2 : w40.cell? ⟨w.heap.size, 2, none⟩ = _ := HSB.out.cell 2 _ rfl
      have s3 : w40.cell? ⟨w.heap.size, 3, none⟩ = _ := HSB.out.cell 3 _ rfl
      have s4 : w40.cell? ⟨w.heap.size, 4, none⟩ = _ := HSB.out.cell 4 _ rfl
      have s5 : w40.cell? ⟨w.heap.size, 5, none⟩ = _ := HSB.out.cell 5 _ rfl
      have s6 : w40.cell? ⟨w.heap.size, 6, none⟩ = _ := HSB.out.cell 6 _ rfl
      go_wp2_with fail
      have HK := Lib.hid (K3.out w40 HCW.out)
      rcases L3 with _ | ⟨en, q⟩
      · refine (HK.out).mono ?_
        rintro _ w50 ⟨hc, rfl⟩
        have hWD : Chg [] w40 w50 := hc
        have HSB := Lib.hid (HSB.out.kept hWD (by simp)); have HCW := Lib.hid (HCW.out.then hWD)
        clear hWD
        clear hc HK
        clear s0 s1 s2 s3 s4 s5 s6
        have s0 : w50.cell? ⟨w.heap.size, 0, none⟩ = _ := HSB.out.cell 0 _ rfl
        have s1 : w50.cell? ⟨w.heap.size, 1, none⟩ = _ := HSB.out.cell 1 _ rfl
        have s2 : w50.cell? ⟨w.heap.size, 2, none⟩ = _ := HSB.out.cell 2 _ rfl
        have s3 : w50.cell? ⟨w.heap.size, 3, none⟩ = _ := HSB.out.cell 3 _ rfl
        have s4 : w50.cell? ⟨w.heap.size, 4, none⟩ = _ := HSB.out.cell 4 _ rfl
        have s5 : w50.cell? ⟨w.heap.size, 5, none⟩ = _ := HSB.out.cell 5 _ rfl
        have s6 : w50.cell? ⟨w.heap.size, 6, none⟩ = _ := HSB.out.cell 6 _ rfl
        go_wp2_with fail
        have HK := Lib.hid (K4.out w50 HCW.out)
        rcases L4 with _ | ⟨en, q⟩
        · refine (HK.out).mono ?_
          rintro _ w60 ⟨hc, rfl⟩
          have hWD : Chg [] w50 w60 := hc
          have HSB := Lib.hid (HSB.out.kept hWD (by simp)); have HCW := Lib.hid (HCW.out.then hWD)
          clear hWD
          clear hc HK
          clear s0 s1 s2 s3 s4 s5 s6
          have s0 : w60.cell? ⟨w.heap.size, 0, none⟩ = _ := HSB.out.cell 0 _ rfl
          have s1 : w60.cell? ⟨w.heap.size, 1, none⟩ = _ := HSB.out.cell 1 _ rfl
          have s2 : w60.cell? ⟨w.heap.size, 2, none⟩ = _ := HSB.out.cell 2 _ rfl
          have s3 : w60.cell? ⟨w.heap.size, 3, none⟩ = _ := HSB.out.cell 3 _ rfl
          have s4 : w60.cell? ⟨w.heap.size, 4, none⟩ = _ := HSB.out.cell 4 _ rfl
          have s5 : w60.cell? ⟨w.heap.size, 5, none⟩ = _ := HSB.out.cell 5 _ rfl
          have s6 : w60.cell? ⟨w.heap.size, 6, none⟩ = _ := HSB.out.cell 6 _ rfl
          go_wp2_with fail
          refine bodyPost_end (results_none rfl _ _ _) rfl ?_
          rw [HTG.out]
          exact ⟨HCW.out, rfl⟩
        · refine (HK.out).mono ?_
          rintro _ w9 ⟨hc, b9, rfl, hl9, hb9⟩
          have HC9 := Lib.hid (HCW.out.then hc); have HB9 := Lib.hid hb9; have HL9 := Lib.hid hl9
          have hsz := HCW.out.size
          clear hc hb9 hl9
          go_wp2_with fail
          rw [HTG.out]
          exact ⟨rfl, HC9.out, b9, rfl, by have := HL9.out; omega, HB9.out⟩
      · refine (HK.out).mono ?_
        rintro _ w9 ⟨hc, b9, rfl, hl9, hb9⟩
        have HC9 := Lib.hid (HCW.out.then hc); have HB9 := Lib.hid hb9; have HL9 := Lib.hid hl9
        have hsz := HCW.out.size
        clear hc hb9 hl9
        go_wp2_with fail
        rw [HTG.out]
        exact ⟨rfl, HC9.out, b9, rfl, by have := HL9.out; omega, HB9.out⟩
    · refine (HK.out).mono ?_
      rintro _ w9 ⟨hc, b9, rfl, hl9, hb9⟩
      have HC9 := Lib.hid (HCW.out.then hc); have HB9 := Lib.hid hb9; have HL9 := Lib.hid hl9
      have hsz := HCW.out.size
      clear hc hb9 hl9
      go_wp2_with fail
      rw [HTG.out]
      exact ⟨rfl, HC9.out, b9, rfl, by have := HL9.out; omega, HB9.out⟩
  · refine (HK.out).mono ?_
    rintro _ w9 ⟨hc, b9, rfl, hl9, hb9⟩
    have HC9 := Lib.hid (HCW.out.then hc); have HB9 := Lib.hid hb9; have HL9 := Lib.hid hl9
    have hsz := HCW.out.size
    clear hc hb9 hl9
    go_wp2_with fail
    rw [HTG.out]
    exact ⟨rfl, HC9.out, b9, rfl, by have := HL9.out; omega, HB9.out⟩
/-- What body does at statements. -/
def CBody (c : Env) (F : Nat → Prop) (bc : Nat) (s : S) : Prop := FewS s → s.len ≤ 1000 → ∀ (v : Value) (w : World), EnvAt w F c bc → SlAt w F s v → Calls Tryz.prog 25 #[ptr bc, v] w (Looked [] w (Check.bodyL c s))
theorem body_nil (bc : Nat) (w : World) : Calls Tryz.prog 25 #[ptr bc, nils] w (Looked [] w none) := by
  go_enter Tryz.func25, Tryz.ntmps25
  go_wp2_with fail
  refine wp_loop_rounds 1 ?_
  rw [rounds_succ]
  go_wp2_with fail
  refine bodyPost_end (results_none rfl _ _ _) rfl ?_
  exact ⟨Chg.refl _ _, rfl⟩
/-- The first statement of some. -/
theorem stmt_view (c : Env) (F : Nat → Prop) (bc : Nat) (s : S) (cs : List Value) (w : World) (hE : EnvAt w F c bc) (hs : SAt w F s cs) (hf : FewS s) (ha : AllB (CBody c F bc) s) : s = .nil ∨ ∃ (code p n1 k1 n2 k2 : Nat) (nm : List UInt8) (oi ov : Option Addr) (a1 a2 : Option Addr) (cs' : List Value) (r : S) (sl : Look),
    cs = .int .i64 code :: .int .i64 p :: str nm :: .pointer oi :: .pointer ov :: .slice a1 n1 k1 :: .slice a2 n2 k2 :: cs' ∧ SAt w F r cs' ∧ Check.bodyL c s = sl.or (Check.bodyL c r) ∧ AllB (CBody c F bc) r ∧ FewS r ∧ s.len = r.len + 1 ∧
    ∀ w', Chg [] w w' → Calls Tryz.prog 43 #[ptr bc, .agg #[.int .i64 code, .int .i64 p, str nm, .pointer oi, .pointer ov, .slice a1 n1 k1, .slice a2 n2 k2]] w' (Looked [] w' sl) := by
  have ex : ∀ {x : E} {u : Value}, FewE x → EAt w F x [u] → ∃ b, u = ptr b ∧ ∀ w', Chg [] w w' → Does 58 bc (ptr b) w' (exprL c x) := fun {x u} hx he => by
    obtain ⟨b, hb, _⟩ := (expr_all c F bc x hx).1 u w hE he
    subst hb
    refine ⟨b, rfl, fun w1 hc1 w2 hc2 => ?_⟩
    have hc := hc1.then hc2
    obtain ⟨b', hb', hcall⟩ := (expr_all c F bc x hx).1 (ptr b) w2 (hE.kept hc (by simp)) (he.kept hc (by simp))
    cases hb'
    exact hcall
  have bo : ∀ {t : S} {a : Option Addr} {k : Nat} {ts : List Value}, CBody c F bc t → FewS t → t.len ≤ 1000 → t.len ≤ k → Row w F a ts → SAt w F t ts → ∀ w', Chg [] w w' → Does 25 bc (.slice a t.len k) w' (Check.bodyL c t) := fun {t a k ts} hb hf hl hk hr hs w1 hc1 w2 hc2 => by
    have hc := hc1.then hc2
    exact hb hf hl _ w2 (hE.kept hc (by simp)) ⟨a, k, ts, rfl, hk, hr.kept hc (by simp), hs.kept hc (by simp)⟩
  have bn : ∀ w', Does 25 bc (.slice none 0 0) w' none := fun w' w2 _ => body_nil bc w2
  cases s with
  | nil => exact .inl rfl
  | set p n i v r =>
    obtain ⟨ui, uv, cs', rfl, hi, hv, hr⟩ := hs
    obtain ⟨bv, rfl, kv⟩ := ex hf.2.1 hv
    refine .inr ?_
    cases i with
    | none =>
      have hui : ui = nilp := hi
      subst hui
      refine ⟨1, p, 0, 0, 0, 0, n, none, some ⟨bv, 0, none⟩, none, none, cs', r, (exprL c (.var p [] n)).or (exprL c v), rfl, hr, by rw [Check.bodyL], ha, hf.2.2, rfl, fun w' hc => ?_⟩
      have := stmt_set0 bc p 0 0 0 0 n (ptr bv) none none w' (exprL c (.var p [] n)) (exprL c v) none none (fun w2 b hc2 hb hx => by
        have hs := hc.size
        obtain ⟨b', hb', hcall⟩ := (expr_all c (fun x => F x ∨ x = b) bc (.var p [] n) trivial).1 (ptr b) w2 ((hE.kept (hc.then hc2) (by simp)).mono fun x hx => .inl hx) ⟨b, rfl, .inr rfl, hx⟩
        cases hb'
        exact hcall) (kv w' hc) (bn w') (bn w')
      simpa using this
    | some x =>
      obtain ⟨bi, hbi, _⟩ := ex (hf.1 x rfl) (show EAt w F x [ui] from hi)
      subst hbi
      refine ⟨1, p, 0, 0, 0, 0, n, some ⟨bi, 0, none⟩, some ⟨bv, 0, none⟩, none, none, cs', r, (exprL c (.item p [] n x)).or (exprL c v), rfl, hr, by rw [Check.bodyL], ha, hf.2.2, rfl, fun w' hc => ?_⟩
      have := stmt_set1 bc p 0 0 0 0 n (ptr bv) none none w' bi (exprL c (.item p [] n x)) (exprL c v) none none (fun w2 b hc2 hb hx => by
        obtain ⟨b', hb', hcall⟩ := (expr_all c (fun x => F x ∨ x = b) bc (.item p [] n x) (hf.1 x rfl)).1 (ptr b) w2 ((hE.kept (hc.then hc2) (by simp)).mono fun x hx => .inl hx) ⟨b, ptr bi, rfl, .inr rfl, hx, (EAt.kept (hc.then hc2) (by simp) (show EAt w F x [ptr bi] from hi)).mono fun x hx => .inl hx⟩
        cases hb'
        exact hcall) (kv w' hc) (bn w') (bn w')
      simpa using this
  | ifs p v t e r =>
    obtain ⟨uv, a1, c1, ts, a2, c2, es, cs', rfl, hv, hc1, hr1, ht, hc2, hr2, he, hr⟩ := hs
    obtain ⟨bv, rfl, kv⟩ := ex hf.1 hv
    refine .inr ⟨2, p, _, _, _, _, [], none, some ⟨bv, 0, none⟩, a1, a2, cs', r, ((exprL c v).or (Check.bodyL c t)).or (Check.bodyL c e), rfl, hr, by rw [Check.bodyL], ha.2.2, hf.2.2.2.2.2, rfl, fun w' hc => ?_⟩
    rw [Option.or_assoc]
    exact stmt_any bc p _ _ _ _ [] (ptr bv) a1 a2 w' 2 (by omega) nilp (exprL c v) (Check.bodyL c t) (Check.bodyL c e) (kv w' hc) (bo ha.1 hf.2.1 hf.2.2.1 hc1 hr1 ht w' hc) (bo ha.2.1 hf.2.2.2.1 hf.2.2.2.2.1 hc2 hr2 he w' hc)
  | whil p v t r =>
    obtain ⟨uv, a1, c1, ts, cs', rfl, hv, hc1, hr1, ht, hr⟩ := hs
    obtain ⟨bv, rfl, kv⟩ := ex hf.1 hv
    refine .inr ⟨3, p, _, _, 0, 0, [], none, some ⟨bv, 0, none⟩, a1, none, cs', r, (exprL c v).or (Check.bodyL c t), rfl, hr, by rw [Check.bodyL], ha.2, hf.2.2.2, rfl, fun w' hc => ?_⟩
    have := stmt_any bc p _ _ 0 0 [] (ptr bv) a1 none w' 3 (by omega) nilp (exprL c v) (Check.bodyL c t) none (kv w' hc) (bo ha.1 hf.2.1 hf.2.2.1 hc1 hr1 ht w' hc) (bn w')
    simpa using this
  | ret p v r =>
    obtain ⟨uv, cs', rfl, hv, hr⟩ := hs
    obtain ⟨bv, rfl, kv⟩ := ex hf.1 hv
    refine .inr ⟨4, p, 0, 0, 0, 0, [], none, some ⟨bv, 0, none⟩, none, none, cs', r, exprL c v, rfl, hr, by rw [Check.bodyL], ha, hf.2, rfl, fun w' hc => ?_⟩
    have := stmt_any bc p 0 0 0 0 [] (ptr bv) none none w' 4 (by omega) nilp (exprL c v) none none (kv w' hc) (bn w') (bn w')
    simpa using this
  | wri p v r =>
    obtain ⟨uv, cs', rfl, hv, hr⟩ := hs
    obtain ⟨bv, rfl, kv⟩ := ex hf.1 hv
    refine .inr ⟨5, p, 0, 0, 0, 0, [], none, some ⟨bv, 0, none⟩, none, none, cs', r, exprL c v, rfl, hr, by rw [Check.bodyL], ha, hf.2, rfl, fun w' hc => ?_⟩
    have := stmt_any bc p 0 0 0 0 [] (ptr bv) none none w' 5 (by omega) nilp (exprL c v) none none (kv w' hc) (bn w') (bn w')
    simpa using this
  | call p v r =>
    obtain ⟨uv, cs', rfl, hv, hr⟩ := hs
    obtain ⟨bv, rfl, kv⟩ := ex hf.1 hv
    refine .inr ⟨6, p, 0, 0, 0, 0, [], none, some ⟨bv, 0, none⟩, none, none, cs', r, exprL c v, rfl, hr, by rw [Check.bodyL], ha, hf.2, rfl, fun w' hc => ?_⟩
    have := stmt_any bc p 0 0 0 0 [] (ptr bv) none none w' 6 (by omega) nilp (exprL c v) none none (kv w' hc) (bn w') (bn w')
    simpa using this
theorem body_ok (c : Env) (F : Nat → Prop) (bc : Nat) (s : S) (ha : AllB (CBody c F bc) s) : CBody c F bc s := by
  intro hf hlen v w hE hsl
  obtain ⟨a, k0, cs, rfl, hk0, hrow, hs⟩ := hsl
  obtain ⟨tgt, htgt⟩ : ∃ t, t = Check.bodyL c s := ⟨_, rfl⟩
  rw [← htgt]
  have HF0 := Lib.hid hf; have HE := Lib.hid hE; have HROW := Lib.hid hrow; have HS := Lib.hid hs; have HA := Lib.hid ha; have HTG := Lib.hid htgt
  clear hf hE hrow hs ha htgt
  go_enter Tryz.func25, Tryz.ntmps25
  go_wp2_with fail
  go_loopw [5, 8] (fun _ i wr => ∃ (k : Nat) (rest : S) (cs1 cs2 : List Value), i = .int .i64 k ∧ k + rest.len = s.len ∧ cs = cs1 ++ cs2 ∧ cs1.length = k * 7 ∧ SAt w F rest cs2 ∧ Check.bodyL c rest = tgt ∧ Chg [] w wr ∧ AllB (CBody c F bc) rest ∧ FewS rest) (fun _ i _ => s.len - (intOf i).toNat)
  case atStart => exact ⟨0, s, [], cs, rfl, by simp, rfl, rfl, HS.out, HTG.out.symm, Chg.refl _ _, HA.out, HF0.out⟩
  case round =>
    obtain ⟨k, rest, cs1, cs2, rfl, hk, hcse, hl1, hat, htx, hc, hal, hfr⟩ := hrel
    rcases stmt_view c F bc rest cs2 w HE.out hat hfr hal with hnil | ⟨code, p, n1, k1, n2, k2, nm, oi, ov, a1, a2, cs', r, sl, hcs2, hr, hbl, har, hfr2, hle, hcall⟩
    · subst hnil
      have hke : ¬ k < s.len := by simp [S.len] at hk; omega
      have HT := Lib.hid (show tgt = none by rw [← htx]; rfl)
      have HC := Lib.hid hc
      clear hk hcse hl1 hat htx hc hal hfr
      go_wp2_with fail
      refine bodyPost_end (results_none rfl _ _ _) rfl ?_
      rw [HT.out]
      exact ⟨HC.out, rfl⟩
    · have hlt : k < s.len := by omega
      have hrw := HROW.out.kept hc (by simp)
      rw [hcse, hcs2] at hrw
      obtain ⟨bb, off, rfl, d0, d1, d2, d3, d4, d5, d6⟩ := cells7C hrw hl1
      have hz := Blk.new wr #[.int .i64 0, .int .i64 0, str [], nilp, nilp, nils, nils] 102
      obtain ⟨wA, hwA⟩ : ∃ wA, wr.alloc (.cells #[.int .i64 0, .int .i64 0, str [], nilp, nilp, nils, nils] 102) = wA := ⟨_, rfl⟩
      rw [hwA] at hz
      have hcA : Chg [] wr wA := by rw [← hwA]; exact (Chg.refl _ _).alloc _
      obtain ⟨wF, hwF, hcF, hbF⟩ := set7C (.int .i64 code) (.int .i64 p) (str nm) (.pointer oi) (.pointer ov) (.slice a1 n1 k1) (.slice a2 n2 k2) hz
      have hcw : Chg [] wr wF := hcA.trans hcF (fun x hx => .inr (by simp at hx; omega))
      have g0 := hcA.cellSome d0 (by simp); have g1 := hcA.cellSome d1 (by simp); have g2 := hcA.cellSome d2 (by simp); have g3 := hcA.cellSome d3 (by simp); have g4 := hcA.cellSome d4 (by simp); have g5 := hcA.cellSome d5 (by simp); have g6 := hcA.cellSome d6 (by simp)
      have z0 := hz.cell 0 _ rfl; have z1 := hz.cell 1 _ rfl; have z2 := hz.cell 2 _ rfl; have z3 := hz.cell 3 _ rfl; have z4 := hz.cell 4 _ rfl; have z5 := hz.cell 5 _ rfl; have z6 := hz.cell 6 _ rfl
      have y0 := hz.frozen 0; have y1 := hz.frozen 1; have y2 := hz.frozen 2; have y3 := hz.frozen 3; have y4 := hz.frozen 4; have y5 := hz.frozen 5; have y6 := hz.frozen 6
      have e0 := hbF.cell 0 _ rfl; have e1 := hbF.cell 1 _ rfl; have e2 := hbF.cell 2 _ rfl; have e3 := hbF.cell 3 _ rfl; have e4 := hbF.cell 4 _ rfl; have e5 := hbF.cell 5 _ rfl; have e6 := hbF.cell 6 _ rfl
      have HCW := Lib.hid (hc.then hcw)
      have HCALL := Lib.hid (hcall wF (hc.then hcw))
      have HNX := Lib.hid (show cs = (cs1 ++ [.int .i64 code, .int .i64 p, str nm, .pointer oi, .pointer ov, .slice a1 n1 k1, .slice a2 n2 k2]) ++ cs' by rw [hcse, hcs2]; simp)
      have HR := Lib.hid hr; have HAR := Lib.hid har; have HFR := Lib.hid hfr2
      have HBL := Lib.hid (show sl.or (Check.bodyL c r) = tgt by rw [← hbl]; exact htx)
      have HL1 := Lib.hid hl1
      have hkr : k + (r.len + 1) = s.len := by omega
      clear hk hcse hl1 hat htx hc hal hfr hcs2 hr hbl har hfr2 hle hcall hrw hcA hcF hbF hcw hz
      cases sl with
      | none =>
        go_wp2_with fail
        refine HCALL.out.mono ?_; rintro _ w4 ⟨hc4, rfl⟩
        have HC4 := Lib.hid (HCW.out.then hc4)
        clear hc4
        go_wp2_with fail
        exact ⟨⟨k + 1, r, _, cs', by go_num, by omega, HNX.out, by have := HL1.out; simp; omega, HR.out, by have := HBL.out; rwa [Option.none_or] at this, HC4.out, HAR.out, HFR.out⟩, by simp [intOf]; omega⟩
      | some y =>
        obtain ⟨en, q⟩ := y
        have HT := Lib.hid (show tgt = some (en, q) by rw [← HBL.out]; rfl)
        go_wp2_with fail
        refine HCALL.out.mono ?_; rintro _ w4 ⟨hc4, b9, rfl, hl9, hb9⟩
        have HC4 := Lib.hid (HCW.out.then hc4); have HB9 := Lib.hid hb9; have HL9 := Lib.hid hl9
        have hsz := HCW.out.size
        clear hc4 hb9 hl9
        go_wp2_with fail
        rw [HT.out]
        exact ⟨rfl, HC4.out, b9, rfl, by have := HL9.out; omega, HB9.out⟩
theorem bodies_all (c : Env) (F : Nat → Prop) (bc : Nat) : ∀ s, CBody c F bc s ∧ AllB (CBody c F bc) s
  | .nil => ⟨body_ok c F bc _ trivial, trivial⟩
  | .set p n i v r => have h := (bodies_all c F bc r).2; ⟨body_ok c F bc _ h, h⟩
  | .ifs p v t e r => have h : AllB (CBody c F bc) (.ifs p v t e r) := ⟨(bodies_all c F bc t).1, (bodies_all c F bc e).1, (bodies_all c F bc r).2⟩; ⟨body_ok c F bc _ h, h⟩
  | .whil p v t r => have h : AllB (CBody c F bc) (.whil p v t r) := ⟨(bodies_all c F bc t).1, (bodies_all c F bc r).2⟩; ⟨body_ok c F bc _ h, h⟩
  | .ret p v r => have h := (bodies_all c F bc r).2; ⟨body_ok c F bc _ h, h⟩
  | .wri p v r => have h := (bodies_all c F bc r).2; ⟨body_ok c F bc _ h, h⟩
  | .call p v r => have h := (bodies_all c F bc r).2; ⟨body_ok c F bc _ h, h⟩
theorem cbody_any (c : Env) (F : Nat → Prop) (bc : Nat) (s : S) (hf : FewS s) (hl : s.len ≤ 1000) (v : Value) (w : World) (hE : EnvAt w F c bc) (hs : SlAt w F s v) : Calls Tryz.prog 25 #[ptr bc, v] w (Looked [] w (Check.bodyL c s)) :=
  (bodies_all c F bc s).1 hf hl v w hE hs
end Go.Proofs.YtoeblajmelbbmaaGreatDoor
