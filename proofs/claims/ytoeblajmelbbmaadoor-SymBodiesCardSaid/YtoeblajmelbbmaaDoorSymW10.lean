/- What SymBodies runs. -/
import Derived.Test.YtoeblajmelbbmaaDoorSymW9
namespace Go.Mq.Sym
open Go Go.RowKit Go.Mq Go.Mq.Tree
theorem seenL_seen (vs : List Glob) (ps : List Proc) : seenL (vs.filter (·.seen)) (ps.filter (·.seen)) = seenL vs ps := by
  simp only [seenL, List.filter_filter, Bool.and_self]
theorem seenL_length (vs : List Glob) (ps : List Proc) : (seenL vs ps).length = (vs.filter (·.seen)).length + (ps.filter (·.seen)).length := by
  rw [seenL, List.length_append, List.length_map, List.length_map]
theorem seen_glob {g : Glob} {r L T : List Glob} (h : L ++ (g :: r).filter (·.seen) = T) : (if g.seen then L ++ [g] else L) ++ r.filter (·.seen) = T := by
  rw [← h, List.filter_cons]
  split <;> simp
theorem seen_pro {g : Proc} {r L T : List Proc} (h : L ++ (g :: r).filter (·.seen) = T) : (if g.seen then L ++ [g] else L) ++ r.filter (·.seen) = T := by
  rw [← h, List.filter_cons]
  split <;> simp
theorem PrsL.snoc {x : Proc} {c : List Value} (hx : PrL x c) : ∀ {l : List Proc} {cs : List Value}, PrsL l cs → PrsL (l ++ [x]) (cs ++ c)
  | [], cs, h => by
    have h : cs = [] := h
    subst h
    exact ⟨c, [], by simp, hx, rfl⟩
  | y :: r, _, h => by
    obtain ⟨c1, c2, rfl, h1, h2⟩ := h
    exact ⟨c1, c2 ++ c, by simp, h1, PrsL.snoc hx h2⟩
theorem set4N {w : World} {b : Nat} {u0 u1 u2 u3 u4 : Value} {t : TypeId} (h : Blk w b #[u0, u1, u2, u3, u4] t) : ∃ wF, ((((w.setCell ⟨b, 4, none⟩ nils).setCell ⟨b, 1, none⟩ nils).setCell ⟨b, 2, none⟩ nils).setCell ⟨b, 3, none⟩ nils) = wF ∧ Chg [b] w wF ∧ Blk wF b #[u0, nils, nils, nils, nils] t :=
  ⟨_, rfl, (((Chg.set1 _ _ _ _).then (Chg.set1 _ _ _ _)).then (Chg.set1 _ _ _ _)).then (Chg.set1 _ _ _ _), by
    have := (((h.set 4 nils).set 1 nils).set 2 nils).set 3 nils
    simpa using this⟩
theorem set2N {w : World} {b : Nat} {u0 u1 u2 u3 u4 u5 : Value} {t : TypeId} (h : Blk w b #[u0, u1, u2, u3, u4, u5] t) : ∃ wF, ((w.setCell ⟨b, 5, none⟩ nils).setCell ⟨b, 4, none⟩ nils) = wF ∧ Chg [b] w wF ∧ Blk wF b #[u0, u1, u2, u3, nils, nils] t :=
  ⟨_, rfl, (Chg.set1 _ _ _ _).then (Chg.set1 _ _ _ _), by
    have := (h.set 5 nils).set 4 nils
    simpa using this⟩
end Go.Mq.Sym
namespace Go.Proofs.YtoeblajmelbbmaaDoor
open Go Go.RowKit Go.Mq Go.Mq.Tree Go.Mq.Sym
set_option maxRecDepth 100000
set_option maxHeartbeats 4000000
theorem symBodies_any (s : List UInt8) (hs63 : s.length ≤ 9223372036854775807) (w : World) (B : Nat) (hL : Laid w B) :
    Calls Tryd.prog 3 #[str s] w (Holds w) := by
  by_cases h1 : 1000 < s.length
  · go_enter Tryd.func3, Tryd.ntmps3
    go_wp2_with fail
    go_ret
    exact ⟨rfl, Chg.refl _ _⟩
  have HF := Lib.hid (seen_any w B hL)
  have HL := Lib.hid hL
  clear hL
  go_enter Tryd.func3, Tryd.ntmps3
  go_wp2_with fail
  refine HF.out.mono ?_; rintro _ w0 ⟨rfl, hc0⟩
  have HC0 := Lib.hid hc0
  have hP := parse_any s (by omega) w0 B (HL.out.kept HC0.out (by simp))
  clear hc0
  cases hx : parse s with
  | bad en q =>
    rw [hx] at hP
    have HP := Lib.hid hP
    clear hP hx
    go_wp2_with fail
    refine HP.out.mono ?_; rintro _ w1 ⟨hc1, b, rfl, _, _⟩
    have HC1 := Lib.hid hc1; clear hc1
    have hz := Blk.new w1 #[str [], nils, nils, nils, nils] 28
    obtain ⟨wA, hwA⟩ : ∃ w', w1.alloc (.cells #[str [], nils, nils, nils, nils] 28) = w' := ⟨_, rfl⟩
    rw [hwA] at hz
    have hcA : Chg [] w1 wA := by rw [← hwA]; exact (Chg.refl _ _).alloc _
    obtain ⟨wF, hwF, hcF, hbF⟩ := set5 (str []) (nils) (nils) (nils) (nils) hz
    have HCa := Lib.hid (show Chg [] w1 wF from hcA.trans hcF (fun x hx => .inr (by simp at hx; omega)))
    have z0 := hz.cell 0 _ rfl; have z1 := hz.cell 1 _ rfl; have z2 := hz.cell 2 _ rfl; have z3 := hz.cell 3 _ rfl; have z4 := hz.cell 4 _ rfl
    have y0 := hz.frozen 0; have y1 := hz.frozen 1; have y2 := hz.frozen 2; have y3 := hz.frozen 3; have y4 := hz.frozen 4
    have HBa := Lib.hid hbF
    have xa0 := hbF.cell 0 _ rfl; have xa1 := hbF.cell 1 _ rfl; have xa2 := hbF.cell 2 _ rfl; have xa3 := hbF.cell 3 _ rfl; have xa4 := hbF.cell 4 _ rfl
    clear hcA hcF hbF hz
    go_wp2_with fail
    go_ret
    exact ⟨rfl, (HC0.out.then HC1.out).then HCa.out⟩
  | ok m =>
    rw [hx] at hP
    have HP := Lib.hid hP
    obtain ⟨hwf, _⟩ := parse_sp hx
    have HWF := Lib.hid hwf
    clear hP hx hwf
    go_wp2_with fail
    refine HP.out.mono ?_; rintro _ w1 ⟨hc1, v, rfl, hmod⟩
    have HC1 := Lib.hid (HC0.out.then hc1); clear hc1
    obtain ⟨vix, vvx, vpx, vbx, rfl, hni, hgv, hpv, hsb⟩ := hmod
    obtain ⟨aix, cix, rfl, hi1, hi2⟩ := hni
    obtain ⟨avx, cvx, rfl, hv1, hv2⟩ := hgv
    obtain ⟨apx, cpx, psx, rfl, hp1, hp2, hp3⟩ := hpv
    obtain ⟨abx, cbx, bsx, rfl, hb1, hb2, hb3⟩ := hsb
    have HMx := Lib.hid (show ModAt w1 (New w0 w1) m (.agg #[str m.name, .slice aix m.imports.length cix, .slice avx m.vars.length cvx, .slice apx m.procs.length cpx, .slice abx m.body.len cbx]) from ⟨_, _, _, _, rfl, ⟨_, _, rfl, hi1, hi2⟩, ⟨_, _, rfl, hv1, hv2⟩, ⟨_, _, _, rfl, hp1, hp2, hp3⟩, ⟨_, _, _, rfl, hb1, hb2, hb3⟩⟩)
    clear hi1 hi2 hv1 hv2 hp1 hp2 hp3 hb1 hb2 hb3
    have hz := Blk.new w1 #[str [], nils, nils, nils, nils] 28
    obtain ⟨wA, hwA⟩ : ∃ w', w1.alloc (.cells #[str [], nils, nils, nils, nils] 28) = w' := ⟨_, rfl⟩
    rw [hwA] at hz
    have hcA : Chg [] w1 wA := by rw [← hwA]; exact (Chg.refl _ _).alloc _
    obtain ⟨wF, hwF, hcF, hbF⟩ := set5 (str m.name) (.slice aix m.imports.length cix) (.slice avx m.vars.length cvx) (.slice apx m.procs.length cpx) (.slice abx m.body.len cbx) hz
    have HCx := Lib.hid (show Chg [] w1 wF from hcA.trans hcF (fun x hx => .inr (by simp at hx; omega)))
    have z0 := hz.cell 0 _ rfl; have z1 := hz.cell 1 _ rfl; have z2 := hz.cell 2 _ rfl; have z3 := hz.cell 3 _ rfl; have z4 := hz.cell 4 _ rfl
    have y0 := hz.frozen 0; have y1 := hz.frozen 1; have y2 := hz.frozen 2; have y3 := hz.frozen 3; have y4 := hz.frozen 4
    have HBx := Lib.hid hbF
    have xx0 := hbF.cell 0 _ rfl; have xx1 := hbF.cell 1 _ rfl; have xx2 := hbF.cell 2 _ rfl; have xx3 := hbF.cell 3 _ rfl; have xx4 := hbF.cell 4 _ rfl
    clear hcA hcF hbF hz
    obtain ⟨_, _, _, _, _, _, _, _, he, hgv, hpv⟩ := mod_parts (HMx.out.kept HCx.out (by simp))
    cases he
    have HMG := Lib.hid hgv; have HMP := Lib.hid hpv
    obtain ⟨_, _, he, _, hgv2⟩ := hgv
    cases he
    obtain ⟨_, _, pcs, he, _, hpv2, hpv3⟩ := hpv
    cases he
    have HGV := Lib.hid hgv2; have HPV := Lib.hid hpv2; have HPL := Lib.hid hpv3
    have HWX := Lib.hid (HC1.out.then HCx.out)
    have hbx : w1.heap.size < wF.heap.size := HBx.out.lt
    clear hgv2 hpv2 hpv3
    have hzN := Blk.new wF #[str [], nils, nils, nils, nils] 28
    obtain ⟨wB, hwB⟩ : ∃ w', wF.alloc (.cells #[str [], nils, nils, nils, nils] 28) = w' := ⟨_, rfl⟩
    rw [hwB] at hzN
    have hcB : Chg [] wF wB := by rw [← hwB]; exact (Chg.refl _ _).alloc _
    obtain ⟨wG, hwG, hcG, hbG⟩ := set5 (str m.name) (.slice aix m.imports.length cix) (.slice avx m.vars.length cvx) (.slice apx m.procs.length cpx) (.slice abx m.body.len cbx) hzN
    obtain ⟨wN, hwN, hcN, hbN⟩ := set4N hbG
    have HCN := Lib.hid (show Chg [] wF wN from (hcB.trans hcG (fun x hx => .inr (by simp at hx; omega))).trans hcN (fun x hx => .inr (by simp at hx; omega)))
    have HBN := Lib.hid hbN
    have p0 := hzN.cell 0 _ rfl; have p1 := hzN.cell 1 _ rfl; have p2 := hzN.cell 2 _ rfl; have p3 := hzN.cell 3 _ rfl; have p4 := hzN.cell 4 _ rfl
    have q0 := hzN.frozen 0; have q1 := hzN.frozen 1; have q2 := hzN.frozen 2; have q3 := hzN.frozen 3; have q4 := hzN.frozen 4
    have r0 := hbG.cell 0 _ rfl; have r1 := hbG.cell 1 _ rfl; have r2 := hbG.cell 2 _ rfl; have r3 := hbG.cell 3 _ rfl; have r4 := hbG.cell 4 _ rfl
    have u0 := hbG.frozen 0; have u1 := hbG.frozen 1; have u2 := hbG.frozen 2; have u3 := hbG.frozen 3; have u4 := hbG.frozen 4
    clear hcB hcG hbG hcN hbN hzN
    go_wp2_with fail
    clear hwA hwF hwB hwG hwN z0 z1 z2 z3 z4 y0 y1 y2 y3 y4 xx0 xx1 xx2 xx3 xx4 p0 p1 p2 p3 p4 q0 q1 q2 q3 q4 r0 r1 r2 r3 r4 u0 u1 u2 u3 u4
    go_loopw [6] (fun i wr => ∃ (k : Nat) (rest L : List Glob) (cs1 : List Value) (lv : Value), i = .int .i64 k ∧ k + rest.length = m.vars.length ∧ m.vars.flatMap Glob.cells = cs1 ++ rest.flatMap Glob.cells ∧ cs1.length = k * 4 ∧ L.length ≤ k ∧ Chg [wF.heap.size] wN wr ∧ Blk wr wF.heap.size #[str m.name, nils, lv, nils, nils] 28 ∧ wr.ownsRow 0 34 4 lv L.length (L.flatMap Glob.cells) ∧ From wN.heap.size lv ∧ L ++ rest.filter (·.seen) = m.vars.filter (·.seen)) (fun i _ => m.vars.length - (intOf i).toNat)
    case atStart => exact ⟨0, m.vars, [], [], nils, rfl, by simp, rfl, rfl, Nat.le_refl _, Chg.refl _ _, HBN.out, World.ownsRow_nil _ _ _ _, From.nil _, rfl⟩
    case round =>
      obtain ⟨k, rest, L, cs1, lv, rfl, hk, hcse, hl1, hLk, hc, hb, ho, hf, hT⟩ := hrel
      have HC := Lib.hid hc; have HB := Lib.hid hb; have HO := Lib.hid ho; have HF := Lib.hid hf; have HT := Lib.hid hT
      have HBX := Lib.hid ((HBx.out.kept HCN.out (by simp)).kept hc (by simp; omega))
      have hsN := HCN.out.size
      have hsC := hc.size
      have x2 := HBX.out.cell 2 _ rfl
      have n2 := hb.cell 2 _ rfl
      obtain ⟨la, lc, hs⟩ := slice_of_owns ho
      have hvs := HWF.out.fewv
      clear hc hb ho hf hT
      cases rest with
      | nil =>
        have hke : ¬ k < m.vars.length := by simp at hk; omega
        have hLe : m.vars.filter (·.seen) = L := by have := HT.out; simpa using this.symm
        have HLE := Lib.hid hLe
        have hLv : L.length ≤ 10 := by omega
        clear hcse hLe hs n2
        go_wp2_with fail
        clear x2
        have HLO := Lib.hid HO.out
        have HLF := Lib.hid HF.out
        have HLB := Lib.hid HB.out
        have HLC := Lib.hid HC.out
        clear HT HO HF HB HC HBX hLk hl1 hk hke
        obtain ⟨wL, hwL⟩ : ∃ x, x = wr := ⟨_, rfl⟩
        subst hwL
        go_loopw [7, 8] (fun i _ wr2 => ∃ (k : Nat) (rest M : List Proc) (cs1 cs2 ds : List Value) (pv : Value), i = .int .i64 k ∧ k + rest.length = m.procs.length ∧ pcs = cs1 ++ cs2 ∧ cs1.length = k * 6 ∧ PrsL rest cs2 ∧ M.length ≤ k ∧ Chg [wF.heap.size] wL wr2 ∧ Blk wr2 wF.heap.size #[str m.name, nils, lv, pv, nils] 28 ∧ wr2.ownsRow 0 36 6 pv M.length ds ∧ PrsL M ds ∧ From wL.heap.size pv ∧ M ++ rest.filter (·.seen) = m.procs.filter (·.seen)) (fun i _ _ => m.procs.length - (intOf i).toNat)
        case atStart => exact ⟨0, m.procs, [], [], pcs, [], nils, rfl, by simp, rfl, rfl, HPL.out, Nat.le_refl _, Chg.refl _ _, HLB.out, World.ownsRow_nil _ _ _ _, rfl, From.nil _, rfl⟩
        case round =>
          obtain ⟨k, rest, M, cs1, cs2, ds, pv, rfl, hk, hcse, hl1, hpl, hMk, hc, hb, ho, hds, hf, hT⟩ := hrel
          have HC := Lib.hid hc; have HB := Lib.hid hb; have HO := Lib.hid ho; have HDS := Lib.hid hds; have HF := Lib.hid hf; have HT := Lib.hid hT
          have HBX := Lib.hid (((HBx.out.kept HCN.out (by simp)).kept HLC.out (by simp; omega)).kept hc (by simp; omega))
          have hsC2 := hc.size
          have hsx := HWX.out.size
          have hps := HWF.out.fewp
          have hNl : wF.heap.size < wN.heap.size := HBN.out.lt
          clear hc hb ho hds hf hT
          cases rest with
          | nil =>
            have hke : ¬ k < m.procs.length := by simp at hk; omega
            have hMe : m.procs.filter (·.seen) = M := by have := HT.out; simpa using this.symm
            have hMl : M.length ≤ 10 := by omega
            obtain ⟨pa, pc, hpa⟩ := slice_of_owns HO.out
            obtain ⟨la, lc, hla⟩ := slice_of_owns HLO.out
            subst hpa
            subst hla
            obtain ⟨LL, hLL⟩ : ∃ LL, LL = insSort (seenL m.vars m.procs) := ⟨_, rfl⟩
            have e1 : insSort (seenL L M) = LL := by rw [← HLE.out, ← hMe, seenL_seen, hLL]
            have e2 : LL.length = L.length + M.length := by rw [hLL, insSort_length, seenL_length, HLE.out, hMe]
            have hfit : ∀ x ∈ LL, x.fit := by rw [hLL]; exact seenL_fit HWF.out.vars HWF.out.procs
            have hCW : Chg [] w wr := ((HWX.out.then HCN.out).trans HLC.out (fun x hx => .inr (by simp at hx; omega))).trans HC.out (fun x hx => .inr (by simp at hx; omega))
            obtain ⟨T, hTT⟩ : ∃ T : ByteArray, T = bs (printT LL) := ⟨_, rfl⟩
            have K1 := Lib.hid (show ∀ w', Chg [] wr w' → Calls Tryd.prog 8 #[.agg #[str m.name, nils, .slice la L.length lc, .slice pa M.length pc, nils]] w' (fun e w'' => ∃ v, e = .returned v ∧ SymsAt w'' (New w' w'') LL v ∧ Chg [] w' w'') from fun w' hc => by
              obtain ⟨a, c, he, hac, hrow⟩ := Row.of_owns (owns_kept HLO.out HC.out (fun g hg hm => by have := HLF.out g hg; simp at hm; omega)) (F := fun _ => True) (fun _ _ => trivial)
              cases he
              obtain ⟨a, c, he, hac2, hrow2⟩ := Row.of_owns HO.out (F := fun _ => True) (fun _ _ => trivial)
              cases he
              have := of_any L M (by omega) (by omega) (fun _ => True) m.name none 0 0 none 0 0 _ _ w' ⟨_, _, rfl, hac, hrow.kept hc (by simp)⟩ ⟨_, _, _, rfl, hac2, hrow2.kept hc (by simp), HDS.out⟩
              rwa [e1] at this)
            have K2 := Lib.hid (show ∀ w', Chg [] wr w' → Calls Tryd.prog 8 #[.agg #[str m.name, .slice aix m.imports.length cix, .slice avx m.vars.length cvx, .slice apx m.procs.length cpx, .slice abx m.body.len cbx]] w' (fun e w'' => ∃ v, e = .returned v ∧ SymsAt w'' (New w' w'') LL v ∧ Chg [] w' w'') from fun w' hc => by
              rw [hLL]
              have out : ∀ x ∈ [wF.heap.size], ¬ New w0 w1 x := fun x hx hn => by simp at hx; have := hn.2; omega
              exact of_any m.vars m.procs HWF.out.fewv HWF.out.fewp (New w0 w1) m.name aix m.imports.length cix abx m.body.len cbx _ _ w' ((((HMG.out.kept HCN.out (by simp)).kept HLC.out out).kept HC.out out).kept hc (by simp)) ((((HMP.out.kept HCN.out (by simp)).kept HLC.out out).kept HC.out out).kept hc (by simp)))
            have K3 := Lib.hid (show ∀ (F : Nat → Prop) (v : Value) w', Chg [] wr w' → (∀ x, F x → x < w'.heap.size) → SymsAt w' F LL v → Calls Tryd.prog 7 #[v] w' (fun e w'' => e = .returned (.string T) ∧ Chg [] w' w'') from fun F v w' hc hF h => by
              rw [hTT]
              exact sprint_any LL hfit (by omega) F v w' B ((HL.out.kept hCW (by simp)).kept hc (by simp)) hF h)
            have HCW := Lib.hid hCW
            have HE2 := Lib.hid e2
            have HLT1 := Lib.hid (show wF.heap.size < wr.drew.heap.size from HB.out.lt)
            have HLT2 := Lib.hid (show w1.heap.size < wr.drew.heap.size from HBX.out.lt)
            have n0 : wr.drew.cell? ⟨wF.heap.size, 0, none⟩ = _ := HB.out.cell 0 _ rfl
            have n1 : wr.drew.cell? ⟨wF.heap.size, 1, none⟩ = _ := HB.out.cell 1 _ rfl
            have n2 : wr.drew.cell? ⟨wF.heap.size, 2, none⟩ = _ := HB.out.cell 2 _ rfl
            have n3 : wr.drew.cell? ⟨wF.heap.size, 3, none⟩ = _ := HB.out.cell 3 _ rfl
            have n4 : wr.drew.cell? ⟨wF.heap.size, 4, none⟩ = _ := HB.out.cell 4 _ rfl
            have x0 : wr.drew.cell? ⟨w1.heap.size, 0, none⟩ = _ := HBX.out.cell 0 _ rfl
            have x1 : wr.drew.cell? ⟨w1.heap.size, 1, none⟩ = _ := HBX.out.cell 1 _ rfl
            have x2 : wr.drew.cell? ⟨w1.heap.size, 2, none⟩ = _ := HBX.out.cell 2 _ rfl
            have x3 : wr.drew.cell? ⟨w1.heap.size, 3, none⟩ = _ := HBX.out.cell 3 _ rfl
            have x4 : wr.drew.cell? ⟨w1.heap.size, 4, none⟩ = _ := HBX.out.cell 4 _ rfl
            have x3' : wr.cell? ⟨w1.heap.size, 3, none⟩ = _ := HBX.out.cell 3 _ rfl
            have HZ1 := Lib.hid (Zone.of (X := []) n0 (by simp))
            have HZ2 := Lib.hid (Zone.of (X := []) x0 (by simp))
            clear hcse hl1 hpl e1 e2 hfit hLL hTT hCW hMe
            go_wp2_with fail
            refine wp_region_C [] rfl (by kernel_rfl) ?_
            have hS : Chg [] wr.drew wr.drew := Chg.refl _ _
            repeat
              (with_reducible show wpX _ _ _ _ _ _ _ _
               first
                 | refine wpX_nil ?_
                 | refine wpX_skip rfl ?_
                 | refine wpX_mv rfl rfl (by kernel_rfl) (fun _ _ => ?_)
                 | refine wpX_ldC rfl rfl rfl (by first | exact HZ1.out | exact HZ2.out) (by assumption) (fun _ _ => ?_)
                 | refine wpX_ef' rfl rfl rfl (fun _ _ => ?_)
               go_wp2_with fail)
            refine (K1.out _ ((Chg.refl [] wr).drew)).mono ?_; rintro _ wc0 ⟨sv, rfl, hsy, hw⟩
            have hS := hw
            have HCS := Lib.hid hS
            have HSY := Lib.hid hsy; clear hsy
            have hk1 := Chg.cells hS HLT1.out (by simp)
            have hk2 := Chg.cells hS HLT2.out (by simp)
            clear hw
            go_wp2_with fail
            refine And.intro HCS.out ?_
            repeat
              (with_reducible show wpX _ _ _ _ _ _ _ _
               first
                 | refine wpX_nil ?_
                 | refine wpX_skip rfl ?_
                 | refine wpX_mv rfl rfl (by kernel_rfl) (fun _ _ => ?_)
                 | refine wpX_ldC rfl rfl rfl (by first | exact HZ1.out | exact HZ2.out) (by assumption) (fun _ _ => ?_)
                 | refine wpX_ef' rfl rfl rfl (fun _ _ => ?_)
               go_wp2_with fail)
            refine (K3.out _ _ _ (((Chg.refl [] wr).drew).then HCS.out) (fun x hx => hx.2) HSY.out).mono ?_; rintro _ wc1 ⟨rfl, hw⟩
            have hS := HCS.out.then hw
            have HCS := Lib.hid hS
            clear hk1 hk2
            have hk1 := Chg.cells hS HLT1.out (by simp)
            have hk2 := Chg.cells hS HLT2.out (by simp)
            clear hw
            go_wp2_with fail
            refine And.intro HCS.out ?_
            repeat
              (with_reducible show wpX _ _ _ _ _ _ _ _
               first
                 | refine wpX_nil ?_
                 | refine wpX_skip rfl ?_
                 | refine wpX_mv rfl rfl (by kernel_rfl) (fun _ _ => ?_)
                 | refine wpX_ldC rfl rfl rfl (by first | exact HZ1.out | exact HZ2.out) (by assumption) (fun _ _ => ?_)
                 | refine wpX_ef' rfl rfl rfl (fun _ _ => ?_)
               go_wp2_with fail)
            refine (K2.out _ (((Chg.refl [] wr).drew).then HCS.out)).mono ?_; rintro _ wc2 ⟨sw, rfl, hsy, hw⟩
            have hS := HCS.out.then hw
            have HCS := Lib.hid hS
            have HSY := Lib.hid hsy; clear hsy
            clear hk1 hk2
            have hk1 := Chg.cells hS HLT1.out (by simp)
            have hk2 := Chg.cells hS HLT2.out (by simp)
            clear hw
            go_wp2_with fail
            refine And.intro HCS.out ?_
            repeat
              (with_reducible show wpX _ _ _ _ _ _ _ _
               first
                 | refine wpX_nil ?_
                 | refine wpX_skip rfl ?_
                 | refine wpX_mv rfl rfl (by kernel_rfl) (fun _ _ => ?_)
                 | refine wpX_ldC rfl rfl rfl (by first | exact HZ1.out | exact HZ2.out) (by assumption) (fun _ _ => ?_)
                 | refine wpX_ef' rfl rfl rfl (fun _ _ => ?_)
               go_wp2_with fail)
            refine (K3.out _ _ _ (((Chg.refl [] wr).drew).then HCS.out) (fun x hx => hx.2) HSY.out).mono ?_; rintro _ wc3 ⟨rfl, hw⟩
            have hS := HCS.out.then hw
            have HCS := Lib.hid hS
            clear hk1 hk2
            have hk1 := Chg.cells hS HLT1.out (by simp)
            have hk2 := Chg.cells hS HLT2.out (by simp)
            clear hw
            go_wp2_with fail
            refine And.intro HCS.out ?_
            repeat
              (with_reducible show wpX _ _ _ _ _ _ _ _
               first
                 | refine wpX_nil ?_
                 | refine wpX_skip rfl ?_
                 | refine wpX_mv rfl rfl (by kernel_rfl) (fun _ _ => ?_)
                 | refine wpX_ldC rfl rfl rfl (by first | exact HZ1.out | exact HZ2.out) (by assumption) (fun _ _ => ?_)
                 | refine wpX_ef' rfl rfl rfl (fun _ _ => ?_)
               go_wp2_with fail)
            refine (K2.out _ (((Chg.refl [] wr).drew).then HCS.out)).mono ?_; rintro _ wc4 ⟨sx, rfl, hsy, hw⟩
            have hS := HCS.out.then hw
            have HCS := Lib.hid hS
            obtain ⟨sa, sc, hsv, _⟩ := hsy
            rw [HE2.out] at hsv
            subst hsv
            clear hk1 hk2
            have hk1 := Chg.cells hS HLT1.out (by simp)
            have hk2 := Chg.cells hS HLT2.out (by simp)
            clear hw
            go_wp2_with fail
            refine And.intro HCS.out ?_
            repeat
              (with_reducible show wpX _ _ _ _ _ _ _ _
               first
                 | refine wpX_nil ?_
                 | refine wpX_skip rfl ?_
                 | refine wpX_mv rfl rfl (by kernel_rfl) (fun _ _ => ?_)
                 | refine wpX_ldC rfl rfl rfl (by first | exact HZ1.out | exact HZ2.out) (by assumption) (fun _ _ => ?_)
                 | refine wpX_ef' rfl rfl rfl (fun _ _ => ?_)
               go_wp2_with fail)
            go_ret
            exact ⟨rfl, (HCW.out.drew).then HCS.out⟩
          | cons x r =>
            obtain ⟨xn, xp, xse, xps, xvs, xb⟩ := x
            obtain ⟨_, cs', rfl, ⟨pos, a1, k1, a2, n2, k2, a3, n3, k3, rfl⟩, hpl'⟩ := hpl
            have HR := Lib.hid hpl'
            have hlt : k < m.procs.length := by simp at hk; omega
            simp only [List.cons_append, List.nil_append] at hcse
            have HCSE := Lib.hid hcse
            clear hpl'
            have out : ∀ x ∈ [wF.heap.size], ¬ New w0 w1 x := fun x hx hn => by simp at hx; have := hn.2; omega
            have hrw := ((HPV.out.kept HCN.out (by simp)).kept HLC.out out).kept HC.out out
            rw [hcse] at hrw
            obtain ⟨bb, off, rfl, d0, d1, d2, d3, d4, d5⟩ := cells6S hrw hl1
            have hz := Blk.new wr #[str [], .int .i64 0, .bool false, nils, nils, nils] 36
            obtain ⟨wP, hwP⟩ : ∃ wA, wr.alloc (.cells #[str [], .int .i64 0, .bool false, nils, nils, nils] 36) = wA := ⟨_, rfl⟩
            rw [hwP] at hz
            have hcP : Chg [] wr wP := by rw [← hwP]; exact (Chg.refl _ _).alloc _
            obtain ⟨wQ, hwQ, hcQ, hbQ⟩ := set6S (str xn) (.int .i64 pos) (.bool xse) (.slice a1 xps.length k1) (.slice a2 n2 k2) (.slice a3 n3 k3) hz
            have hcw : Chg [] wr wQ := hcP.trans hcQ (fun x hx => .inr (by simp at hx; omega))
            have x3 := HBX.out.cell 3 _ rfl
            have g0 := hcP.cellSome d0 (by simp); have g1 := hcP.cellSome d1 (by simp); have g2 := hcP.cellSome d2 (by simp); have g3 := hcP.cellSome d3 (by simp); have g4 := hcP.cellSome d4 (by simp); have g5 := hcP.cellSome d5 (by simp)
            have z0 := hz.cell 0 _ rfl; have z1 := hz.cell 1 _ rfl; have z2 := hz.cell 2 _ rfl; have z3 := hz.cell 3 _ rfl; have z4 := hz.cell 4 _ rfl; have z5 := hz.cell 5 _ rfl
            have y0 := hz.frozen 0; have y1 := hz.frozen 1; have y2 := hz.frozen 2; have y3 := hz.frozen 3; have y4 := hz.frozen 4; have y5 := hz.frozen 5
            have b2 := hbQ.cell 2 _ rfl
            have HCQ := Lib.hid (HC.out.trans hcw (fun x hx => by cases hx))
            have HWQ := Lib.hid hcw
            have hszQ := hcw.size
            have HOQ := Lib.hid (owns_kept HO.out hcw (by simp))
            have HBQ := Lib.hid (HB.out.kept hcw (by simp))
            clear hrw hcP hcQ hcw hz hcse out
            cases hgs : xse with
            | false =>
              subst hgs
              clear hbQ
              go_wp2_with fail
              exact ⟨⟨k + 1, r, M, cs1 ++ [str xn, .int .i64 pos, .bool false, .slice a1 xps.length k1, .slice a2 n2 k2, .slice a3 n3 k3], cs', ds, pv, by go_num, by simp at hk; omega, by rw [HCSE.out]; simp, by simp [hl1]; omega, HR.out, by omega, HCQ.out, HBQ.out, HOQ.out, HDS.out, HF.out, by have e := seen_pro HT.out; simpa using e⟩, by simp [intOf]; omega⟩
            | true =>
              subst hgs
              obtain ⟨wR, hwR, hcR, hbR⟩ := set2N hbQ
              have hcw : Chg [] wr wR := HWQ.out.trans hcR (fun x hx => .inr (by simp at hx; omega))
              have c0 := hbQ.cell 0 _ rfl; have c1 := hbQ.cell 1 _ rfl; have c3 := hbQ.cell 3 _ rfl; have c4 := hbQ.cell 4 _ rfl; have c5 := hbQ.cell 5 _ rfl
              have f4 := hbQ.frozen 4; have f5 := hbQ.frozen 5
              have e0 := hbR.cell 0 _ rfl; have e1 := hbR.cell 1 _ rfl; have e2 := hbR.cell 2 _ rfl; have e3 := hbR.cell 3 _ rfl; have e4 := hbR.cell 4 _ rfl; have e5 := hbR.cell 5 _ rfl
              have hBR := HB.out.kept hcw (by simp)
              have n3R := hBR.cell 3 _ rfl
              have HBR := Lib.hid (hBR.kept ((Chg.refl [] wR).alloc (.cells #[str xn, .int .i64 pos, .bool true, .slice a1 xps.length k1, nils, nils] 36)) (by simp))
              have HCR := Lib.hid (HC.out.trans hcw (fun x hx => by cases hx))
              have hszR := hcw.size
              have HO2 := Lib.hid (owns_kept (owns_kept HO.out hcw (by simp)) ((Chg.refl [] wR).alloc (.cells #[str xn, .int .i64 pos, .bool true, .slice a1 xps.length k1, nils, nils] 36)) (by simp))
              clear hcR hcw hbQ hbR hBR
              go_wp2_with (at_builtin; go_must (refine wpL_append rfl _ _ 25 rfl 36 _ 6 104 infoProc Tryd.underlying25 rfl (by decide) _ _ _ rfl HO2.out ⟨wR.heap.size, 0, none⟩ 1 1 [str xn, .int .i64 pos, .bool true, .slice a1 xps.length k1, nils, nils] rfl rfl (cells_new _ _ _) (by simp [Value.oneCell']) ?_ ?_ ?_))
              · omega
              · unfold maxLen; omega
              · intro v' w' hown' hch' hmv'
                obtain ⟨a', c', rfl⟩ := slice_of_owns hown'
                have hf3 := HF.out.moved hmv' (by simp; omega)
                have HF3 := Lib.hid hf3
                have hc3 : Chg [wF.heap.size] wL w' := (HCR.out.alloc (.cells #[str xn, .int .i64 pos, .bool true, .slice a1 xps.length k1, nils, nils] 36)).trans hch' (fun x hx => .inr (HF.out x hx))
                have hb3 := HBR.out.kept hch' (HF.out.notin (by omega))
                have n3W := hb3.cell 3 _ rfl
                have f3W := hb3.frozen 3
                have HC3 := Lib.hid hc3
                have HB3 := Lib.hid hb3
                have HO3 := Lib.hid hown'
                clear hown' hch' hmv' hf3 hc3 hb3
                go_wp2_with fail
                have hcs : Chg [wF.heap.size] w' (w'.setCell ⟨wF.heap.size, 3, none⟩ (.slice a' (M.length + 1) c')) := Chg.set1 _ _ _ _
                have hbs := HB3.out.set 3 (.slice a' (M.length + 1) c')
                have hos := owns_kept HO3.out hcs (fun g hg hm => by have := HF3.out g hg; simp at hm; omega)
                exact ⟨⟨k + 1, r, M ++ [⟨xn, xp, true, xps, xvs, xb⟩], cs1 ++ [str xn, .int .i64 pos, .bool true, .slice a1 xps.length k1, .slice a2 n2 k2, .slice a3 n3 k3], cs', ds ++ [str xn, .int .i64 pos, .bool true, .slice a1 xps.length k1, nils, nils], (.slice a' (M.length + 1) c'), by go_num, by simp at hk; omega, by rw [HCSE.out]; simp, by simp [hl1]; omega, HR.out, by simp; omega, HC3.out.then hcs, by simpa using hbs, by simpa using hos, PrsL.snoc ⟨pos, a1, k1, none, 0, 0, none, 0, 0, rfl⟩ HDS.out, HF3.out, by have e := seen_pro HT.out; simpa using e⟩, by simp [intOf]; omega⟩
      | cons g r =>
        obtain ⟨gn, gp, gl, gs⟩ := g
        have hlt : k < m.vars.length := by simp at hk; omega
        simp only [List.flatMap_cons, Glob.cells, List.cons_append, List.nil_append] at hcse
        have HCSE := Lib.hid hcse
        have hrw := (HGV.out.kept HCN.out (by simp)).kept HC.out (fun x hx hn => by simp at hx; have := hn.2; omega)
        rw [hcse] at hrw
        obtain ⟨bb, off, rfl, d0, d1, d2, d3⟩ := cells4S hrw hl1
        have hbb : bb < w1.heap.size := (hrw.own (by simp only [List.length_append, List.length_cons]; omega) _ rfl).2
        subst hs
        clear hrw hcse
        cases hgs : gs with
        | false =>
          subst hgs
          go_wp2_with fail
          exact ⟨⟨k + 1, r, L, cs1 ++ [str gn, .int .i64 gp, .int .i64 gl, .bool false], _, by go_num, by simp at hk; omega, by rw [HCSE.out]; simp, by simp [hl1]; omega, by omega, HC.out, HB.out, HO.out, HF.out, by have e := seen_glob HT.out; simpa using e⟩, by simp [intOf]; omega⟩
        | true =>
          subst hgs
          have nin : ∀ b, b < wN.heap.size → b ∉ blk (.slice la L.length lc) := fun b hb hm => by have := HF.out b hm; omega
          have x2d : wr.drew.cell? ⟨w1.heap.size, 2, none⟩ = _ := x2
          have n2d : wr.drew.cell? ⟨wF.heap.size, 2, none⟩ = some (.slice la L.length lc) := n2
          have d0d : wr.drew.cell? ⟨bb, off + k * 4, none⟩ = _ := d0
          have d1d : wr.drew.cell? ⟨bb, off + k * 4 + 1, none⟩ = _ := d1
          have d2d : wr.drew.cell? ⟨bb, off + k * 4 + 2, none⟩ = _ := d2
          have d3d : wr.drew.cell? ⟨bb, off + k * 4 + 3, none⟩ = _ := d3
          have hNl : wF.heap.size < wN.heap.size := HBN.out.lt
          have HZ1 := Lib.hid (Zone.of (X := blk (.slice la L.length lc)) x2d (nin _ (by omega)))
          have HZ2 := Lib.hid (Zone.of (X := blk (.slice la L.length lc)) n2d (nin _ (by omega)))
          have HZ3 := Lib.hid (Zone.of (X := blk (.slice la L.length lc)) d0d (nin _ (by omega)))
          have HNI := Lib.hid (nin wF.heap.size hNl)
          clear nin
          go_wp2_with fail
          refine wp_region_T (blk (.slice la L.length lc)) rfl (by kernel_rfl) rfl ?_
          have hS : Chg (blk (.slice la L.length lc)) wr.drew wr.drew := Chg.refl _ _
          repeat
            (with_reducible show wpX _ _ _ _ _ _ _ _
             first
               | refine wpX_nil ?_
               | refine wpX_skip rfl ?_
               | refine wpX_mv rfl rfl (by kernel_rfl) (fun _ _ => ?_)
               | refine wpX_ldC rfl rfl rfl (by first | exact HZ1.out | exact HZ2.out | exact HZ3.out) (by assumption) (fun _ _ => ?_)
               | refine wpX_ef' rfl rfl rfl (fun _ _ => ?_)
             go_wp2_with fail)
          refine And.intro (hS.alloc _) ?_
          repeat
            (with_reducible show wpX _ _ _ _ _ _ _ _
             first
               | refine wpX_nil ?_
               | refine wpX_skip rfl ?_
               | refine wpX_mv rfl rfl (by kernel_rfl) (fun _ _ => ?_)
               | refine wpX_ldC rfl rfl rfl (by first | exact HZ1.out | exact HZ2.out | exact HZ3.out) (by assumption) (fun _ _ => ?_)
               | refine wpX_ef' rfl rfl rfl (fun _ _ => ?_)
             go_wp2_with fail)
          have how := owns_kept (w := wr.drew) (owns_kept HO.out (Chg.refl [] wr).drew (by simp)) ((Chg.refl [] wr.drew).alloc (.cells #[str gn, .int .i64 gp, .int .i64 gl, .bool true] 34)) (by simp)
          refine wpX_append _ _ 24 rfl rfl rfl 34 _ 4 40 infoGlob Tryd.underlying24 rfl (by decide) (.slice la L.length lc) L.length _ rfl how ⟨wr.drew.heap.size, 0, none⟩ 1 1 [str gn, .int .i64 gp, .int .i64 gl, .bool true] rfl rfl (cells_new _ _ _) (by simp [Value.oneCell']) (by omega) (by unfold maxLen; omega) ?_
          intro v' w7 hown' hch' hmv'
          obtain ⟨a', c', rfl⟩ := slice_of_owns hown'
          have hc7 : Chg (blk (.slice la L.length lc)) wr.drew w7 := (hS.alloc _).then hch'
          have hc7' : Chg (blk (.slice la L.length lc)) wr w7 := Chg.trans (S := blk (.slice la L.length lc)) (⟨rfl, rfl, rfl, Nat.le_refl _, fun _ _ _ => rfl⟩ : Chg _ wr wr.drew) hc7 (fun x hx => .inl hx)
          have hb7 : Blk w7 wF.heap.size _ _ := HB.out.kept hc7' HNI.out
          have hcell7 := hb7.cell 2 _ rfl
          have hfz7 := hb7.frozen 2
          have hF7 : From wN.heap.size (.slice a' (L.length + 1) c') := HF.out.moved hmv' (by simp [World.drew]; omega)
          have HF7 := Lib.hid hF7
          have HO7 := Lib.hid hown'
          have HB7 := Lib.hid hb7
          have HC7 := Lib.hid hc7
          have HC7' := Lib.hid hc7'
          clear hown' hch' hmv' hb7 hS how hF7 hc7 hc7'
          refine And.intro HC7.out ?_
          repeat
            (with_reducible show wpX _ _ _ _ _ _ _ _
             first
               | refine wpX_nil ?_
               | refine wpX_skip rfl ?_
               | refine wpX_mv rfl rfl (by kernel_rfl) (fun _ _ => ?_)
               | refine wpX_ldC rfl rfl rfl (by first | exact HZ1.out | exact HZ2.out | exact HZ3.out) (by assumption) (fun _ _ => ?_)
               | refine wpX_ef' rfl rfl rfl (fun _ _ => ?_)
             go_wp2_with fail)
          refine stepX_ef rfl rfl (fun _ _ => ?_)
          change Oper.wp _ (Oper.mk _ _ _ _ _ _) _ _ _ _
          go_wp2_with fail
          have hcs : Chg [wF.heap.size] w7 (w7.setCell ⟨wF.heap.size, 2, none⟩ (.slice a' (L.length + 1) c')) := Chg.set1 _ _ _ _
          have hbs : Blk (w7.setCell ⟨wF.heap.size, 2, none⟩ (.slice a' (L.length + 1) c')) wF.heap.size #[str m.name, nils, (.slice a' (L.length + 1) c'), nils, nils] 28 := HB7.out.set 2 (.slice a' (L.length + 1) c')
          have hos := owns_kept HO7.out hcs (fun g hg hm => by have := HF7.out g hg; simp at hm; omega)
          have hcr : Chg [wF.heap.size] wN (w7.setCell ⟨wF.heap.size, 2, none⟩ (.slice a' (L.length + 1) c')) := (HC.out.trans HC7'.out (fun x hx => .inr (HF.out x hx))).then hcs
          exact ⟨⟨k + 1, r, L ++ [⟨gn, gp, gl, true⟩], cs1 ++ [str gn, .int .i64 gp, .int .i64 gl, .bool true], (.slice a' (L.length + 1) c'), by go_num, by simp at hk; omega, by rw [HCSE.out]; simp, by simp [hl1]; omega, by simp; omega, hcr, hbs, by simpa [List.flatMap_append, Glob.cells] using hos, HF7.out, by have e := seen_glob HT.out; simpa using e⟩, by simp [intOf]; omega⟩
end Go.Proofs.YtoeblajmelbbmaaDoor
