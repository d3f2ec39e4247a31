/- What PlanRounds hands to ContainsFunc; which names are left. -/
import Derived.Test.YtgnfhognbpifiaaGreatDoorPlanW4
import Derived.Test.YtgnfhognbpifiaaGreatDoorPlanRange
namespace Go.Mq.Plan
open Go Go.RowKit Go.Mq Go.Mq.Tree
def bget (els : List (List UInt8 × Value)) (n : Nm) : Bool := match getM els n with
  | some (.bool q) => q
  | _ => false
/-- The names that are left, in a map in a box. -/
structure LS (w : World) (bx bl : Nat) (els : List (List UInt8 × Value)) : Prop where
  box : Blk w bx #[.map (some bl)] 31
  map : MapIs w bl els
  bools : ∀ n v, getM els n = some v → ∃ q, v = .bool q
theorem LS.kept {S : List Nat} {w w' : World} {bx bl : Nat} {els : List (List UInt8 × Value)} (h : LS w bx bl els) (hc : Chg S w w') (h1 : bx ∉ S) (h2 : bl ∉ S) : LS w' bx bl els := ⟨h.box.kept hc h1, h.map.kept hc h2, h.bools⟩
theorem LS.get {w : World} {bx bl : Nat} {els : List (List UInt8 × Value)} (h : LS w bx bl els) (n : Nm) : (getM els n).getD (.bool false) = .bool (bget els n) := by
  rw [bget]
  cases hg : getM els n with
  | none => rfl
  | some v =>
    obtain ⟨q, rfl⟩ := h.bools n v hg
    rfl
theorem bget_true {els : List (List UInt8 × Value)} {n : Nm} (h : getM els n = some (.bool true)) : bget els n = true := by rw [bget, h]
/-- How large the number in a box is. -/
def intAtP (w : World) (v : Value) : Nat := match v with
  | .pointer (some a) => match w.cell? a with
    | some (.int _ n) => n.toNat
    | _ => 0
  | _ => 0
end Go.Mq.Plan
namespace Go.Proofs.YtgnfhognbpifiaaGreatDoor
open Go Go.RowKit Go.Mq Go.Mq.Tree Go.Mq.Plan
set_option maxRecDepth 100000
set_option maxHeartbeats 2000000
theorem ls_put {w : World} {bx bl : Nat} {els : List (List UInt8 × Value)} (h : LS w bx bl els) (hne : bx ≠ bl) (n : Nm) (q : Bool) : ∃ w', (Instr.mapUpdate 31 (.map (some bl)) (str n) (.bool q)).run Tryz.prog w = .ok () w' ∧ LS w' bx bl (putM els n (.bool q)) ∧ Chg [bl] w w' := by
  obtain ⟨w', hr, hm, hc⟩ := run_putM (P := Tryz.prog) Tryz.underlying31 Tryz.underlying9 h.map n (.bool q)
  refine ⟨w', hr, ⟨h.box.kept hc (by simpa using hne), hm, fun x v hv => ?_⟩, hc⟩
  rw [getM_put] at hv
  split at hv
  · cases hv; exact ⟨q, rfl⟩
  · exact h.bools x v hv
theorem ls_look {w : World} {bx bl : Nat} {els : List (List UInt8 × Value)} (h : LS w bx bl els) (n : Nm) : (Instr.lookup 31 (.map (some bl)) (str n) false).run Tryz.prog w = .ok (.bool (bget els n)) w := by
  rw [← h.get]
  exact run_getM Tryz.underlying31 Tryz.underlying9 (zero_bool w) h.map n
theorem left_any (n : Nm) (bx bl : Nat) (els : List (List UInt8 × Value)) (w : World) (h : LS w bx bl els) :
    Calls Tryz.prog 10 #[str n, ptr bx] w (fun e w' => e = .returned (.bool (bget els n)) ∧ Chg [] w w') := by
  have hl := ls_look h n
  have x0 := h.box.cell 0 _ rfl
  clear h
  go_enter Tryz.func10, Tryz.ntmps10
  go_wp2_with fail
  go_ret
  exact ⟨rfl, Chg.refl _ _⟩
theorem left_index (l : List Nm) (hl : l.length ≤ 1000) (p : Nm → Bool) (c1 : Nat) (F : Nat → Prop) (v : Value) (w : World) (h : NamesAt w F l v)
    (hf : ∀ n w', Chg [] w w' → Calls Tryz.prog 10 #[str n, ptr c1] w' (fun e w'' => e = .returned (.bool (p n)) ∧ Chg [] w' w'')) :
    Calls Tryz.prog 22 #[v, .func (.func 10) #[] #[ptr c1]] w (fun e w' => At1 l p e ∧ Chg [] w w') := by
  obtain ⟨a, c, rfl, hac, hrow⟩ := h
  have HROW := Lib.hid hrow; have HF := Lib.hid hf
  clear hrow hf
  go_enter Tryz.func22, Tryz.ntmps22
  go_wp2_with fail
  go_loopw [5, 8] (fun _ i wr => ∃ k : Nat, i = .int .i64 k ∧ k ≤ l.length ∧ Chg [] w wr ∧ ∀ (i : Nat) (x : Nm), i < k → l[i]? = some x → p x = false) (fun _ i _ => l.length - (intOf i).toNat)
  case atStart => exact ⟨0, rfl, Nat.zero_le _, Chg.refl _ _, fun i x hi => by omega⟩
  case round =>
    obtain ⟨k, rfl, hk, hc, hno⟩ := hrel
    have HNO := Lib.hid hno; have HC := Lib.hid hc
    clear hno hc
    by_cases hlt : k < l.length
    · obtain ⟨s, hs⟩ : ∃ s, l[k]? = some s := ⟨l[k], List.getElem?_eq_getElem hlt⟩
      obtain ⟨bb, off, rfl, d0⟩ := names_cell (HROW.out.kept HC.out (by simp)) hs
      have HS := Lib.hid hs
      have HI := Lib.hid (HF.out s wr HC.out)
      clear hs
      cases hq : p s with
      | true =>
        rw [hq] at HI
        have HR := Lib.hid (show l.find? p = some s from find_at HS.out hq HNO.out)
        clear hq
        go_wp2_with fail
        refine HI.out.mono ?_; rintro _ w2 ⟨rfl, hq⟩
        have HQ := Lib.hid (HC.out.then hq); clear hq
        go_wp2_with fail
        go_ret
        refine ⟨?_, HQ.out⟩
        rw [At1, HR.out]
        exact ⟨k, HS.out, rfl⟩
      | false =>
        rw [hq] at HI
        have HN := Lib.hid hq
        clear hq
        go_wp2_with fail
        refine HI.out.mono ?_; rintro _ w2 ⟨rfl, hq⟩
        have HQ := Lib.hid (HC.out.then hq); clear hq
        go_wp2_with fail
        refine ⟨⟨k + 1, by go_num, by omega, HQ.out, fun i x hi hx => ?_⟩, by simp [intOf]; omega⟩
        by_cases he : i < k
        · exact HNO.out i x he hx
        · have : i = k := by omega
          subst this
          rw [HS.out] at hx
          cases hx
          exact HN.out
    · have HR := Lib.hid (show l.find? p = none from find_no fun i x hx => HNO.out i x (by have := (List.getElem?_eq_some_iff.1 hx).1; omega) hx)
      go_wp2_with fail
      go_ret
      exact ⟨by rw [At1, HR.out] <;> rfl, HC.out⟩
theorem left_contains (l : List Nm) (hl : l.length ≤ 1000) (p : Nm → Bool) (c1 : Nat) (F : Nat → Prop) (v : Value) (w : World) (h : NamesAt w F l v)
    (hf : ∀ n w', Chg [] w w' → Calls Tryz.prog 10 #[str n, ptr c1] w' (fun e w'' => e = .returned (.bool (p n)) ∧ Chg [] w' w'')) :
    Calls Tryz.prog 9 #[v, .func (.func 10) #[] #[ptr c1]] w (fun e w' => e = .returned (.bool (l.any p)) ∧ Chg [] w w') := by
  have HI := Lib.hid (left_index l hl p c1 F v w h hf)
  clear h hf
  go_enter Tryz.func9, Tryz.ntmps9
  go_wp2_with fail
  refine HI.out.mono ?_; rintro e w1 ⟨hat, hc⟩
  have HC := Lib.hid hc
  have hfd := any_find l p
  clear hc
  rw [At1] at hat
  cases hx : l.find? p with
  | none =>
    rw [hx] at hat hfd
    simp only at hat
    subst hat
    have HAF := Lib.hid (show l.any p = false from hfd)
    clear hfd hx
    go_wp2_with fail
    go_ret
    exact ⟨by rw [HAF.out] <;> rfl, HC.out⟩
  | some x =>
    rw [hx] at hat hfd
    obtain ⟨k, hk, rfl⟩ := hat
    have HAF := Lib.hid (show l.any p = true from hfd)
    have hkz : decide ((0 : Int) ≤ (k : Int)) = true := by simp
    clear hfd hx hk
    go_wp2_with fail
    go_ret
    exact ⟨by rw [HAF.out] <;> simp, HC.out⟩
/-- The boxes of the last loop: modules, order, place. -/
structure LastAt (w : World) (bm bo bi b : Nat) (G Fo : Nat → Prop) (mf : Nm → Option Mod) (es : List (List UInt8 × Value)) (o : List Nm) (k : Nat) : Prop where
  m : w.cell? ⟨bm, 0, none⟩ = some (.map (some b))
  ord : ∃ oa oc, w.cell? ⟨bo, 0, none⟩ = some (.slice oa o.length oc) ∧ o.length ≤ oc ∧ Row w Fo oa (o.map str)
  i : w.cell? ⟨bi, 0, none⟩ = some (.int .i64 k)
  mods : ModsAt w b G mf es
  few : o.length ≤ 1000
  lt : k < o.length
theorem LastAt.kept {w w' : World} {bm bo bi b : Nat} {G Fo : Nat → Prop} {mf : Nm → Option Mod} {es : List (List UInt8 × Value)} {o : List Nm} {k : Nat} (h : LastAt w bm bo bi b G Fo mf es o k) (hc : Chg [] w w') : LastAt w' bm bo bi b G Fo mf es o k := by
  obtain ⟨oa, oc, h1, h2, h3⟩ := h.ord
  exact ⟨hc.cellSome h.m (by simp), ⟨oa, oc, hc.cellSome h1 (by simp), h2, h3.kept hc (by simp)⟩, hc.cellSome h.i (by simp), h.mods.kept hc (by simp) (by simp), h.few, h.lt⟩
theorem last_any (n : Nm) (bm bo bi b : Nat) (G Fo : Nat → Prop) (mf : Nm → Option Mod) (es : List (List UInt8 × Value)) (o : List Nm) (k : Nat) (w : World) (h : LastAt w bm bo bi b G Fo mf es o k) :
    Calls Tryz.prog 13 #[str n, ptr bm, ptr bo, ptr bi] w (fun e w' => e = .returned (.bool ((mf n).isSome && !decide (n ∈ o.take k))) ∧ Chg [] w w') := by
  obtain ⟨nm, ai, ci, av, nv, cv, ap, np, cp, ab, nb, cb, _, hlk, _⟩ := look_mod h.mods n
  have hlu := hlk w (Chg.refl _ _)
  have hm := h.m
  have hz := Blk.new w #[str [], nils, nils, nils, nils] 37
  obtain ⟨wA, hwA⟩ : ∃ w', w.alloc (.cells #[str [], nils, nils, nils, nils] 37) = w' := ⟨_, rfl⟩
  rw [hwA] at hz
  have hcA : Chg [] w wA := by rw [← hwA]; exact (Chg.refl _ _).alloc _
  obtain ⟨wF, hwF, hcF, hbF⟩ := set5 (str nm) (.slice ai (impOf mf n).length ci) (.slice av nv cv) (.slice ap np cp) (.slice ab nb cb) hz
  have hcw : Chg [] w wF := hcA.trans hcF (fun x hx => .inr (by simp at hx; omega))
  have z0 := hz.cell 0 _ rfl; have z1 := hz.cell 1 _ rfl; have z2 := hz.cell 2 _ rfl; have z3 := hz.cell 3 _ rfl; have z4 := hz.cell 4 _ rfl
  have y0 := hz.frozen 0; have y1 := hz.frozen 1; have y2 := hz.frozen 2; have y3 := hz.frozen 3; have y4 := hz.frozen 4
  obtain ⟨oa, oc, ho, hoc, horow⟩ := (h.kept hcw).ord
  have hi := (h.kept hcw).i
  have hkl := h.lt
  have hfew := h.few
  have hko : k ≤ oc := by omega
  have HC := Lib.hid hcw
  have HCT := Lib.hid (contains_in (o.take k) (by rw [List.length_take]; omega) n Fo _ wF (names_take horow hoc (by omega)))
  obtain ⟨bo', oo, rfl⟩ : ∃ bb oo, oa = some ⟨bb, oo, none⟩ := by
    obtain ⟨bb, oo, he, _⟩ := horow.at_ (by simp; omega)
    exact ⟨bb, oo, he⟩
  clear h hz hcA hcF hbF hcw hlk horow
  cases hth : (mf n).isSome with
  | false =>
    rw [hth] at hlu
    go_enter Tryz.func13, Tryz.ntmps13
    go_wp2_with fail
    go_ret
    exact ⟨rfl, HC.out⟩
  | true =>
    rw [hth] at hlu
    go_enter Tryz.func13, Tryz.ntmps13
    go_wp2_with fail
    refine HCT.out.mono ?_; rintro _ _ ⟨rfl, hw⟩; have hw := hw.symm; subst hw
    go_wp2_with fail
    go_ret
    exact ⟨rfl, HC.out⟩
theorem last_index (l : List Nm) (hl : l.length ≤ 1000) (p : Nm → Bool) (c1 c2 c3 : Nat) (F : Nat → Prop) (v : Value) (w : World) (h : NamesAt w F l v)
    (hf : ∀ n w', Chg [] w w' → Calls Tryz.prog 13 #[str n, ptr c1, ptr c2, ptr c3] w' (fun e w'' => e = .returned (.bool (p n)) ∧ Chg [] w' w'')) :
    Calls Tryz.prog 22 #[v, .func (.func 13) #[] #[ptr c1, ptr c2, ptr c3]] w (fun e w' => At1 l p e ∧ Chg [] w w') := by
  obtain ⟨a, c, rfl, hac, hrow⟩ := h
  have HROW := Lib.hid hrow; have HF := Lib.hid hf
  clear hrow hf
  go_enter Tryz.func22, Tryz.ntmps22
  go_wp2_with fail
  go_loopw [5, 8] (fun _ i wr => ∃ k : Nat, i = .int .i64 k ∧ k ≤ l.length ∧ Chg [] w wr ∧ ∀ (i : Nat) (x : Nm), i < k → l[i]? = some x → p x = false) (fun _ i _ => l.length - (intOf i).toNat)
  case atStart => exact ⟨0, rfl, Nat.zero_le _, Chg.refl _ _, fun i x hi => by omega⟩
  case round =>
    obtain ⟨k, rfl, hk, hc, hno⟩ := hrel
    have HNO := Lib.hid hno; have HC := Lib.hid hc
    clear hno hc
    by_cases hlt : k < l.length
    · obtain ⟨s, hs⟩ : ∃ s, l[k]? = some s := ⟨l[k], List.getElem?_eq_getElem hlt⟩
      obtain ⟨bb, off, rfl, d0⟩ := names_cell (HROW.out.kept HC.out (by simp)) hs
      have HS := Lib.hid hs
      have HI := Lib.hid (HF.out s wr HC.out)
      clear hs
      cases hq : p s with
      | true =>
        rw [hq] at HI
        have HR := Lib.hid (show l.find? p = some s from find_at HS.out hq HNO.out)
        clear hq
        go_wp2_with fail
        refine HI.out.mono ?_; rintro _ w2 ⟨rfl, hq⟩
        have HQ := Lib.hid (HC.out.then hq); clear hq
        go_wp2_with fail
        go_ret
        refine ⟨?_, HQ.out⟩
        rw [At1, HR.out]
        exact ⟨k, HS.out, rfl⟩
      | false =>
        rw [hq] at HI
        have HN := Lib.hid hq
        clear hq
        go_wp2_with fail
        refine HI.out.mono ?_; rintro _ w2 ⟨rfl, hq⟩
        have HQ := Lib.hid (HC.out.then hq); clear hq
        go_wp2_with fail
        refine ⟨⟨k + 1, by go_num, by omega, HQ.out, fun i x hi hx => ?_⟩, by simp [intOf]; omega⟩
        by_cases he : i < k
        · exact HNO.out i x he hx
        · have : i = k := by omega
          subst this
          rw [HS.out] at hx
          cases hx
          exact HN.out
    · have HR := Lib.hid (show l.find? p = none from find_no fun i x hx => HNO.out i x (by have := (List.getElem?_eq_some_iff.1 hx).1; omega) hx)
      go_wp2_with fail
      go_ret
      exact ⟨by rw [At1, HR.out] <;> rfl, HC.out⟩
theorem last_contains (l : List Nm) (hl : l.length ≤ 1000) (p : Nm → Bool) (c1 c2 c3 : Nat) (F : Nat → Prop) (v : Value) (w : World) (h : NamesAt w F l v)
    (hf : ∀ n w', Chg [] w w' → Calls Tryz.prog 13 #[str n, ptr c1, ptr c2, ptr c3] w' (fun e w'' => e = .returned (.bool (p n)) ∧ Chg [] w' w'')) :
    Calls Tryz.prog 9 #[v, .func (.func 13) #[] #[ptr c1, ptr c2, ptr c3]] w (fun e w' => e = .returned (.bool (l.any p)) ∧ Chg [] w w') := by
  have HI := Lib.hid (last_index l hl p c1 c2 c3 F v w h hf)
  clear h hf
  go_enter Tryz.func9, Tryz.ntmps9
  go_wp2_with fail
  refine HI.out.mono ?_; rintro e w1 ⟨hat, hc⟩
  have HC := Lib.hid hc
  have hfd := any_find l p
  clear hc
  rw [At1] at hat
  cases hx : l.find? p with
  | none =>
    rw [hx] at hat hfd
    simp only at hat
    subst hat
    have HAF := Lib.hid (show l.any p = false from hfd)
    clear hfd hx
    go_wp2_with fail
    go_ret
    exact ⟨by rw [HAF.out] <;> rfl, HC.out⟩
  | some x =>
    rw [hx] at hat hfd
    obtain ⟨k, hk, rfl⟩ := hat
    have HAF := Lib.hid (show l.any p = true from hfd)
    have hkz : decide ((0 : Int) ≤ (k : Int)) = true := by simp
    clear hfd hx hk
    go_wp2_with fail
    go_ret
    exact ⟨by rw [HAF.out] <;> simp, HC.out⟩
end Go.Proofs.YtgnfhognbpifiaaGreatDoor
