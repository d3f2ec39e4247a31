/- What Order looks for. -/
import Derived.Test.YtgnfhognbpifiaaGreatDoorPlans
namespace Go.Mq.Plan
open Go Go.RowKit Go.Mq Go.Mq.Tree
/-- Modules by their names, in a map; what they hold in blocks of G. -/
def ModsAt (w : World) (b : Nat) (G : Nat → Prop) (mf : Nm → Option Mod) (es : List (List UInt8 × Value)) : Prop := MapIs w b es ∧ es.length ≤ 1000 ∧ (∀ p ∈ es, p.1.length ≤ 1000) ∧ ∀ n, match mf n with
    | none => getM es n = none
    | some m => m.imports.length ≤ 1000 ∧ ∃ v, getM es n = some v ∧ ModAt w G m v
theorem ModsAt.kept {S : List Nat} {w w' : World} {b : Nat} {G : Nat → Prop} {mf : Nm → Option Mod} {es : List (List UInt8 × Value)} (h : ModsAt w b G mf es) (hc : Chg S w w') (hn : b ∉ S) (hS : ∀ x ∈ S, ¬ G x) : ModsAt w' b G mf es := by
  obtain ⟨h1, hl1, hl2, h2⟩ := h
  refine ⟨h1.kept hc hn, hl1, hl2, fun n => ?_⟩
  have := h2 n
  cases hs : mf n with
  | none => rw [hs] at this; exact this
  | some m =>
    rw [hs] at this
    obtain ⟨h5, v, h6, h7⟩ := this
    exact ⟨h5, v, h6, h7.kept hc hS⟩
theorem ModsAt.mono {w : World} {b : Nat} {G F : Nat → Prop} {mf : Nm → Option Mod} {es : List (List UInt8 × Value)} (h : ModsAt w b G mf es) (hF : ∀ x, G x → F x) : ModsAt w b F mf es := by
  obtain ⟨h1, hl1, hl2, h2⟩ := h
  refine ⟨h1, hl1, hl2, fun n => ?_⟩
  have := h2 n
  cases hs : mf n with
  | none => rw [hs] at this; exact this
  | some m =>
    rw [hs] at this
    obtain ⟨h5, v, h6, h7⟩ := this
    exact ⟨h5, v, h6, h7.mono hF⟩
def impOf (mf : Nm → Option Mod) (n : Nm) : List Nm := match mf n with
  | none => []
  | some m => m.imports
theorem impOf_few {w : World} {b : Nat} {G : Nat → Prop} {mf : Nm → Option Mod} {es : List (List UInt8 × Value)} (h : ModsAt w b G mf es) (n : Nm) : (impOf mf n).length ≤ 1000 := by
  obtain ⟨_, _, _, h2⟩ := h
  have := h2 n
  rw [impOf]
  cases hs : mf n with
  | none => simp
  | some m => rw [hs] at this; exact this.1
/-- Where the first one is, as IndexFunc tells it. -/
def At1 {α : Type} (l : List α) (f : α → Bool) (e : Ending) : Prop := match l.find? f with
  | none => e = .returned (.int .i64 (-1))
  | some x => ∃ k : Nat, l[k]? = some x ∧ e = .returned (.int .i64 k)
theorem any_find {α : Type} (l : List α) (f : α → Bool) : l.any f = (l.find? f).isSome := by
  induction l with
  | nil => rfl
  | cons x r ih =>
    rw [List.any_cons, List.find?_cons]
    cases hx : f x with
    | true => rfl
    | false => simpa using ih
end Go.Mq.Plan
namespace Go.Proofs.YtgnfhognbpifiaaGreatDoor
open Go Go.RowKit Go.Mq Go.Mq.Tree Go.Mq.Plan
set_option maxRecDepth 100000
set_option maxHeartbeats 2000000
theorem zero_mod (w : World) : (zeroValue 37).run Tryz.prog w = .ok (.agg #[str [], nils, nils, nils, nils]) w := by kernel_rfl
theorem field_imports (x0 x1 x2 x3 x4 : Value) (w : World) : (Instr.field 37 (.agg #[x0, x1, x2, x3, x4]) 1).run Tryz.prog w = .ok x1 w := by kernel_rfl
/-- A look into modules: five cells, of which the second one is the imports. -/
theorem look_mod {w : World} {b : Nat} {G : Nat → Prop} {mf : Nm → Option Mod} {es : List (List UInt8 × Value)} (h : ModsAt w b G mf es) (n : Nm) : ∃ (nm : Nm) (ai : Option Addr) (ci : Nat) (av : Option Addr) (nv cv : Nat) (ap : Option Addr) (np cp : Nat) (ab : Option Addr) (nb cb : Nat),
    (∀ w', Chg [] w w' → (Instr.lookup 25 (.map (some b)) (str n) false).run Tryz.prog w' = .ok (.agg #[str nm, .slice ai (impOf mf n).length ci, .slice av nv cv, .slice ap np cp, .slice ab nb cb]) w') ∧
    (∀ w', Chg [] w w' → (Instr.lookup 25 (.map (some b)) (str n) true).run Tryz.prog w' = .ok (.tuple #[.agg #[str nm, .slice ai (impOf mf n).length ci, .slice av nv cv, .slice ap np cp, .slice ab nb cb], .bool (mf n).isSome]) w') ∧
    NamesAt w G (impOf mf n) (.slice ai (impOf mf n).length ci) := by
  obtain ⟨h1, _, _, h2⟩ := h
  have hn := h2 n
  cases hs : mf n with
  | none =>
    rw [hs] at hn
    simp only at hn
    refine ⟨[], none, 0, none, 0, 0, none, 0, 0, none, 0, 0, fun w' hc => ?_, fun w' hc => ?_, ?_⟩
    · have := run_getM (P := Tryz.prog) Tryz.underlying25 Tryz.underlying9 (zero_mod w') (h1.kept hc (by simp)) n
      rw [hn] at this
      rw [impOf, hs]; exact this
    · have := run_getMok (P := Tryz.prog) Tryz.underlying25 Tryz.underlying9 (zero_mod w') (h1.kept hc (by simp)) n
      rw [hn] at this
      rw [impOf, hs]; exact this
    · rw [impOf, hs]; exact NamesAt.nil
  | some m =>
    rw [hs] at hn
    obtain ⟨_, v, h6, vi, vv, vp, vb, rfl, ⟨ai, ci, rfl, hi⟩, ⟨av, cv, rfl, _⟩, ⟨ap, cp, _, rfl, _⟩, ⟨ab, cb, _, rfl, _⟩⟩ := hn
    refine ⟨m.name, ai, ci, av, m.vars.length, cv, ap, m.procs.length, cp, ab, m.body.len, cb, fun w' hc => ?_, fun w' hc => ?_, ?_⟩
    · have := run_getM (P := Tryz.prog) Tryz.underlying25 Tryz.underlying9 (zero_mod w') (h1.kept hc (by simp)) n
      rw [h6] at this
      rw [impOf, hs]; exact this
    · have := run_getMok (P := Tryz.prog) Tryz.underlying25 Tryz.underlying9 (zero_mod w') (h1.kept hc (by simp)) n
      rw [h6] at this
      rw [impOf, hs]; exact this
    · rw [impOf, hs]; exact ⟨ai, ci, rfl, hi⟩
/-- A look at the boxes that Order's functions hold. -/
structure OrderAt (w : World) (bm bo b : Nat) (G Fo : Nat → Prop) (mf : Nm → Option Mod) (es : List (List UInt8 × Value)) (out : List Nm) : Prop where
  m : w.cell? ⟨bm, 0, none⟩ = some (.map (some b))
  o : ∃ ov, w.cell? ⟨bo, 0, none⟩ = some ov ∧ NamesAt w Fo out ov
  mods : ModsAt w b G mf es
  few : out.length ≤ 1000
theorem OrderAt.kept {w w' : World} {bm bo b : Nat} {G Fo : Nat → Prop} {mf : Nm → Option Mod} {es : List (List UInt8 × Value)} {out : List Nm} (h : OrderAt w bm bo b G Fo mf es out) (hc : Chg [] w w') : OrderAt w' bm bo b G Fo mf es out := by
  obtain ⟨ov, h1, h2⟩ := h.o
  exact ⟨hc.cellSome h.m (by simp), ⟨ov, hc.cellSome h1 (by simp), h2.kept hc (by simp)⟩, h.mods.kept hc (by simp) (by simp), h.few⟩
theorem inner_any (i : Nm) (bm bo b : Nat) (G Fo : Nat → Prop) (mf : Nm → Option Mod) (es : List (List UInt8 × Value)) (out : List Nm) (w : World) (h : OrderAt w bm bo b G Fo mf es out) :
    Calls Tryz.prog 24 #[str i, ptr bm, ptr bo] w (fun e w' => e = .returned (.bool ((mf i).isSome && !decide (i ∈ out))) ∧ Chg [] w w') := by
  obtain ⟨nm, ai, ci, av, nv, cv, ap, np, cp, ab, nb, cb, _, hlk, _⟩ := look_mod h.mods i
  have hlu := hlk w (Chg.refl _ _)
  have hm := h.m
  have HO := Lib.hid h
  have hz := Blk.new w #[str [], nils, nils, nils, nils] 37
  obtain ⟨wA, hwA⟩ : ∃ w', w.alloc (.cells #[str [], nils, nils, nils, nils] 37) = w' := ⟨_, rfl⟩
  rw [hwA] at hz
  have hcA : Chg [] w wA := by rw [← hwA]; exact (Chg.refl _ _).alloc _
  obtain ⟨wF, hwF, hcF, hbF⟩ := set5 (str nm) (.slice ai (impOf mf i).length ci) (.slice av nv cv) (.slice ap np cp) (.slice ab nb cb) hz
  have hcw : Chg [] w wF := hcA.trans hcF (fun x hx => .inr (by simp at hx; omega))
  have z0 := hz.cell 0 _ rfl; have z1 := hz.cell 1 _ rfl; have z2 := hz.cell 2 _ rfl; have z3 := hz.cell 3 _ rfl; have z4 := hz.cell 4 _ rfl
  have y0 := hz.frozen 0; have y1 := hz.frozen 1; have y2 := hz.frozen 2; have y3 := hz.frozen 3; have y4 := hz.frozen 4
  obtain ⟨ov, ho, hon⟩ := (h.kept hcw).o
  have HC := Lib.hid hcw
  have HCT := Lib.hid (contains_in out h.few i Fo ov wF hon)
  clear h hz hcA hcF hbF hcw hlk hon
  cases hth : (mf i).isSome with
  | false =>
    rw [hth] at hlu
    go_enter Tryz.func24, Tryz.ntmps24
    go_wp2_with fail
    go_ret
    exact ⟨rfl, HC.out⟩
  | true =>
    rw [hth] at hlu
    go_enter Tryz.func24, Tryz.ntmps24
    go_wp2_with fail
    refine HCT.out.mono ?_; rintro _ _ ⟨rfl, hw⟩; have hw := hw.symm; subst hw
    go_wp2_with fail
    go_ret
    exact ⟨rfl, HC.out⟩
theorem inner_index (l : List Nm) (hl : l.length ≤ 1000) (p : Nm → Bool) (c1 c2 : Nat) (F : Nat → Prop) (v : Value) (w : World) (h : NamesAt w F l v)
    (hf : ∀ n w', Chg [] w w' → Calls Tryz.prog 24 #[str n, ptr c1, ptr c2] w' (fun e w'' => e = .returned (.bool (p n)) ∧ Chg [] w' w'')) :
    Calls Tryz.prog 22 #[v, .func (.func 24) #[] #[ptr c1, ptr c2]] w (fun e w' => At1 l p e ∧ Chg [] w w') := by
  obtain ⟨a, c, rfl, hac, hrow⟩ := h
  have HROW := Lib.hid hrow; have HF := Lib.hid hf
  clear hrow hf
  go_enter Tryz.func22, Tryz.ntmps22
  go_wp2_with fail
  go_loopw [5, 8] (fun _ i wr => ∃ k : Nat, i = .int .i64 k ∧ k ≤ l.length ∧ Chg [] w wr ∧ ∀ (i : Nat) (x : Nm), i < k → l[i]? = some x → p x = false) (fun _ i _ => l.length - (intOf i).toNat)
  case atStart => exact ⟨0, rfl, Nat.zero_le _, Chg.refl _ _, fun i x hi => by omega⟩
  case round =>
    obtain ⟨k, rfl, hk, hc, hno⟩ := hrel
    have HNO := Lib.hid hno; have HC := Lib.hid hc
    clear hno hc
    by_cases hlt : k < l.length
    · obtain ⟨s, hs⟩ : ∃ s, l[k]? = some s := ⟨l[k], List.getElem?_eq_getElem hlt⟩
      obtain ⟨bb, off, rfl, d0⟩ := names_cell (HROW.out.kept HC.out (by simp)) hs
      have HS := Lib.hid hs
      have HI := Lib.hid (HF.out s wr HC.out)
      clear hs
      cases hq : p s with
      | true =>
        rw [hq] at HI
        have HR := Lib.hid (show l.find? p = some s from find_at HS.out hq HNO.out)
        clear hq
        go_wp2_with fail
        refine HI.out.mono ?_; rintro _ w2 ⟨rfl, hq⟩
        have HQ := Lib.hid (HC.out.then hq); clear hq
        go_wp2_with fail
        go_ret
        refine ⟨?_, HQ.out⟩
        rw [At1, HR.out]
        exact ⟨k, HS.out, rfl⟩
      | false =>
        rw [hq] at HI
        have HN := Lib.hid hq
        clear hq
        go_wp2_with fail
        refine HI.out.mono ?_; rintro _ w2 ⟨rfl, hq⟩
        have HQ := Lib.hid (HC.out.then hq); clear hq
        go_wp2_with fail
        refine ⟨⟨k + 1, by go_num, by omega, HQ.out, fun i x hi hx => ?_⟩, by simp [intOf]; omega⟩
        by_cases he : i < k
        · exact HNO.out i x he hx
        · have : i = k := by omega
          subst this
          rw [HS.out] at hx
          cases hx
          exact HN.out
    · have HR := Lib.hid (show l.find? p = none from find_no fun i x hx => HNO.out i x (by have := (List.getElem?_eq_some_iff.1 hx).1; omega) hx)
      go_wp2_with fail
      go_ret
      exact ⟨by rw [At1, HR.out] <;> rfl, HC.out⟩
theorem inner_contains (l : List Nm) (hl : l.length ≤ 1000) (p : Nm → Bool) (c1 c2 : Nat) (F : Nat → Prop) (v : Value) (w : World) (h : NamesAt w F l v)
    (hf : ∀ n w', Chg [] w w' → Calls Tryz.prog 24 #[str n, ptr c1, ptr c2] w' (fun e w'' => e = .returned (.bool (p n)) ∧ Chg [] w' w'')) :
    Calls Tryz.prog 9 #[v, .func (.func 24) #[] #[ptr c1, ptr c2]] w (fun e w' => e = .returned (.bool (l.any p)) ∧ Chg [] w w') := by
  have HI := Lib.hid (inner_index l hl p c1 c2 F v w h hf)
  clear h hf
  go_enter Tryz.func9, Tryz.ntmps9
  go_wp2_with fail
  refine HI.out.mono ?_; rintro e w1 ⟨hat, hc⟩
  have HC := Lib.hid hc
  have hfd := any_find l p
  clear hc
  rw [At1] at hat
  cases hx : l.find? p with
  | none =>
    rw [hx] at hat hfd
    simp only at hat
    subst hat
    have HAF := Lib.hid (show l.any p = false from hfd)
    clear hfd hx
    go_wp2_with fail
    go_ret
    exact ⟨by rw [HAF.out] <;> rfl, HC.out⟩
  | some x =>
    rw [hx] at hat hfd
    obtain ⟨k, hk, rfl⟩ := hat
    have HAF := Lib.hid (show l.any p = true from hfd)
    have hkz : decide ((0 : Int) ≤ (k : Int)) = true := by simp
    clear hfd hx hk
    go_wp2_with fail
    go_ret
    exact ⟨by rw [HAF.out] <;> simp, HC.out⟩
theorem outer_any (n : Nm) (bm bo b : Nat) (G Fo : Nat → Prop) (mf : Nm → Option Mod) (es : List (List UInt8 × Value)) (out : List Nm) (w : World) (h : OrderAt w bm bo b G Fo mf es out) :
    Calls Tryz.prog 23 #[str n, ptr bo, ptr bm] w (fun e w' => e = .returned (.bool (may (fun i => (mf i).isSome) (impOf mf) out n)) ∧ Chg [] w w') := by
  have hmf : ∀ (fn : Fn) (first cap : Array Value) (w : World), (Instr.makeFunc fn first cap).run Tryz.prog w = .ok (.func fn first cap) w := fun _ _ _ _ => rfl
  obtain ⟨nm, ai, ci, av, nv, cv, ap, np, cp, ab, nb, cb, hlk, _, hni⟩ := look_mod h.mods n
  have hlu := hlk w (Chg.refl _ _)
  have hm := h.m
  obtain ⟨ov, ho, hon⟩ := h.o
  have hfi := field_imports
  have HCT := Lib.hid (contains_in out h.few n Fo ov w hon)
  have HAN := Lib.hid (inner_contains (impOf mf n) (impOf_few h.mods n) (fun i => (mf i).isSome && !decide (i ∈ out)) bm bo G _ w hni (fun i w' hc => inner_any i bm bo b G Fo mf es out w' (h.kept hc)))
  have HMY := Lib.hid (show may (fun i => (mf i).isSome) (impOf mf) out n = (!decide (n ∈ out) && !((impOf mf n).any fun i => (mf i).isSome && !decide (i ∈ out))) from rfl)
  obtain ⟨my, hmy⟩ : ∃ q, q = may (fun i => (mf i).isSome) (impOf mf) out n := ⟨_, rfl⟩
  rw [← hmy] at HMY ⊢
  obtain ⟨q, hq⟩ : ∃ q, q = (impOf mf n).any fun i => (mf i).isSome && !decide (i ∈ out) := ⟨_, rfl⟩
  rw [← hq] at HAN HMY
  clear h hlk hni hon hmy hq
  cases hin : decide (n ∈ out) with
  | true =>
    rw [hin] at HCT HMY
    have HT := Lib.hid (show my = false from HMY.out)
    clear hin
    go_enter Tryz.func23, Tryz.ntmps23
    go_wp2_with fail
    refine HCT.out.mono ?_; rintro _ _ ⟨rfl, hw⟩; have hw := hw.symm; subst hw
    go_wp2_with fail
    go_ret
    exact ⟨by rw [HT.out] <;> rfl, Chg.refl _ _⟩
  | false =>
    rw [hin] at HCT HMY
    have HT := Lib.hid (show my = !q from HMY.out)
    clear hin
    go_enter Tryz.func23, Tryz.ntmps23
    go_wp2_with fail
    refine HCT.out.mono ?_; rintro _ _ ⟨rfl, hw⟩; have hw := hw.symm; subst hw
    go_wp2_with fail
    refine HAN.out.mono ?_; rintro _ w2 ⟨rfl, hc2⟩
    have HC2 := Lib.hid hc2
    clear hc2
    go_wp2_with fail
    go_ret
    exact ⟨by rw [HT.out] <;> rfl, HC2.out⟩
theorem outer_index (l : List Nm) (hl : l.length ≤ 1000) (p : Nm → Bool) (c1 c2 : Nat) (F : Nat → Prop) (v : Value) (w : World) (h : NamesAt w F l v)
    (hf : ∀ n w', Chg [] w w' → Calls Tryz.prog 23 #[str n, ptr c1, ptr c2] w' (fun e w'' => e = .returned (.bool (p n)) ∧ Chg [] w' w'')) :
    Calls Tryz.prog 22 #[v, .func (.func 23) #[] #[ptr c1, ptr c2]] w (fun e w' => At1 l p e ∧ Chg [] w w') := by
  obtain ⟨a, c, rfl, hac, hrow⟩ := h
  have HROW := Lib.hid hrow; have HF := Lib.hid hf
  clear hrow hf
  go_enter Tryz.func22, Tryz.ntmps22
  go_wp2_with fail
  go_loopw [5, 8] (fun _ i wr => ∃ k : Nat, i = .int .i64 k ∧ k ≤ l.length ∧ Chg [] w wr ∧ ∀ (i : Nat) (x : Nm), i < k → l[i]? = some x → p x = false) (fun _ i _ => l.length - (intOf i).toNat)
  case atStart => exact ⟨0, rfl, Nat.zero_le _, Chg.refl _ _, fun i x hi => by omega⟩
  case round =>
    obtain ⟨k, rfl, hk, hc, hno⟩ := hrel
    have HNO := Lib.hid hno; have HC := Lib.hid hc
    clear hno hc
    by_cases hlt : k < l.length
    · obtain ⟨s, hs⟩ : ∃ s, l[k]? = some s := ⟨l[k], List.getElem?_eq_getElem hlt⟩
      obtain ⟨bb, off, rfl, d0⟩ := names_cell (HROW.out.kept HC.out (by simp)) hs
      have HS := Lib.hid hs
      have HI := Lib.hid (HF.out s wr HC.out)
      clear hs
      cases hq : p s with
      | true =>
        rw [hq] at HI
        have HR := Lib.hid (show l.find? p = some s from find_at HS.out hq HNO.out)
        clear hq
        go_wp2_with fail
        refine HI.out.mono ?_; rintro _ w2 ⟨rfl, hq⟩
        have HQ := Lib.hid (HC.out.then hq); clear hq
        go_wp2_with fail
        go_ret
        refine ⟨?_, HQ.out⟩
        rw [At1, HR.out]
        exact ⟨k, HS.out, rfl⟩
      | false =>
        rw [hq] at HI
        have HN := Lib.hid hq
        clear hq
        go_wp2_with fail
        refine HI.out.mono ?_; rintro _ w2 ⟨rfl, hq⟩
        have HQ := Lib.hid (HC.out.then hq); clear hq
        go_wp2_with fail
        refine ⟨⟨k + 1, by go_num, by omega, HQ.out, fun i x hi hx => ?_⟩, by simp [intOf]; omega⟩
        by_cases he : i < k
        · exact HNO.out i x he hx
        · have : i = k := by omega
          subst this
          rw [HS.out] at hx
          cases hx
          exact HN.out
    · have HR := Lib.hid (show l.find? p = none from find_no fun i x hx => HNO.out i x (by have := (List.getElem?_eq_some_iff.1 hx).1; omega) hx)
      go_wp2_with fail
      go_ret
      exact ⟨by rw [At1, HR.out] <;> rfl, HC.out⟩
theorem outer_contains (l : List Nm) (hl : l.length ≤ 1000) (p : Nm → Bool) (c1 c2 : Nat) (F : Nat → Prop) (v : Value) (w : World) (h : NamesAt w F l v)
    (hf : ∀ n w', Chg [] w w' → Calls Tryz.prog 23 #[str n, ptr c1, ptr c2] w' (fun e w'' => e = .returned (.bool (p n)) ∧ Chg [] w' w'')) :
    Calls Tryz.prog 9 #[v, .func (.func 23) #[] #[ptr c1, ptr c2]] w (fun e w' => e = .returned (.bool (l.any p)) ∧ Chg [] w w') := by
  have HI := Lib.hid (outer_index l hl p c1 c2 F v w h hf)
  clear h hf
  go_enter Tryz.func9, Tryz.ntmps9
  go_wp2_with fail
  refine HI.out.mono ?_; rintro e w1 ⟨hat, hc⟩
  have HC := Lib.hid hc
  have hfd := any_find l p
  clear hc
  rw [At1] at hat
  cases hx : l.find? p with
  | none =>
    rw [hx] at hat hfd
    simp only at hat
    subst hat
    have HAF := Lib.hid (show l.any p = false from hfd)
    clear hfd hx
    go_wp2_with fail
    go_ret
    exact ⟨by rw [HAF.out] <;> rfl, HC.out⟩
  | some x =>
    rw [hx] at hat hfd
    obtain ⟨k, hk, rfl⟩ := hat
    have HAF := Lib.hid (show l.any p = true from hfd)
    have hkz : decide ((0 : Int) ≤ (k : Int)) = true := by simp
    clear hfd hx hk
    go_wp2_with fail
    go_ret
    exact ⟨by rw [HAF.out] <;> simp, HC.out⟩
end Go.Proofs.YtgnfhognbpifiaaGreatDoor
