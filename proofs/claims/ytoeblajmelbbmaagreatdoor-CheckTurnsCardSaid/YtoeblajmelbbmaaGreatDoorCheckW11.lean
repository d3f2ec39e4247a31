/- Texts that are short; what others see of the modules that they tell. -/
import Derived.Test.YtoeblajmelbbmaaGreatDoorCheckW10
import Derived.Test.YtoeblajmelbbmaaGreatDoorMD
namespace Go.Mq.Check
open Go Go.RowKit Go.Mq Go.Mq.Tree Go.Mq.Sym
/-- One text more. -/
def symsStep (f : List UInt8 → Option (List Sy)) (t : List UInt8) : List UInt8 → Option (List Sy) := match parse t with
  | .ok m => fun n => if n = m.name then some (ofM m) else f n
  | .bad _ _ => f
def symsF (l : List (List UInt8)) : List UInt8 → Option (List Sy) := l.foldl symsStep fun _ => none
theorem symsF_snoc (l : List (List UInt8)) (t : List UInt8) : symsF (l ++ [t]) = symsStep (symsF l) t := by rw [symsF, List.foldl_append]; rfl
theorem step_ok {f : List UInt8 → Option (List Sy)} {t : List UInt8} {m : Mod} (h : parse t = .ok m) : symsStep f t = fun n => if n = m.name then some (ofM m) else f n := by rw [symsStep, h]
theorem step_bad {f : List UInt8 → Option (List Sy)} {t : List UInt8} {en p : Nat} (h : parse t = .bad en p) : symsStep f t = f := by rw [symsStep, h]
/-- What others see, in a map; the rows in blocks of G. -/
def SeenIn (w : World) (b : Nat) (G : Nat → Prop) (seen : List UInt8 → Option (List Sy)) : Prop := ∃ es, MapIs w b es ∧ ∀ n, match seen n with
    | none => getM es n = none
    | some l => l.length ≤ 1000 ∧ ∃ u, getM es n = some u ∧ SymsAt w G l u
section
variable {w w' : World} {b : Nat} {G F : Nat → Prop} {seen : List UInt8 → Option (List Sy)}
theorem SeenIn.at_ (h : SeenIn w b G seen) (hF : ∀ x, G x → F x) (hb : F b) : SeenAt w F seen (.map (some b)) := by
  obtain ⟨es, h1, h2⟩ := h
  refine .inr ⟨b, es, rfl, hb, h1, fun n => ?_⟩
  have := h2 n
  cases hs : seen n with
  | none => rw [hs] at this; exact this
  | some l =>
    rw [hs] at this
    obtain ⟨h5, u, h6, h7⟩ := this
    exact ⟨h5, u, h6, h7.mono hF⟩
theorem SeenIn.mono (h : SeenIn w b G seen) (hF : ∀ x, G x → F x) : SeenIn w b F seen := by
  obtain ⟨es, h1, h2⟩ := h
  refine ⟨es, h1, fun n => ?_⟩
  have := h2 n
  cases hs : seen n with
  | none => rw [hs] at this; exact this
  | some l =>
    rw [hs] at this
    obtain ⟨h5, u, h6, h7⟩ := this
    exact ⟨h5, u, h6, h7.mono hF⟩
theorem SeenIn.kept {S : List Nat} (h : SeenIn w b G seen) (hc : Chg S w w') (hn : b ∉ S) (hS : ∀ x ∈ S, ¬ G x) : SeenIn w' b G seen := by
  obtain ⟨es, h1, h2⟩ := h
  refine ⟨es, h1.kept hc hn, fun n => ?_⟩
  have := h2 n
  cases hs : seen n with
  | none => rw [hs] at this; exact this
  | some l =>
    rw [hs] at this
    obtain ⟨h5, u, h6, h7⟩ := this
    exact ⟨h5, u, h6, h7.kept hc hS⟩
theorem SeenIn.made (w : World) (G : Nat → Prop) : SeenIn (w.alloc (.map #[] 0)) w.heap.size G fun _ => none := ⟨[], MapIs.made w, fun _ => rfl⟩
end
end Go.Mq.Check
namespace Go.Proofs.YtoeblajmelbbmaaGreatDoor
open Go Go.RowKit Go.Mq Go.Mq.Tree Go.Mq.Sym Go.Mq.Check
set_option maxRecDepth 100000
set_option maxHeartbeats 2000000
theorem seen_put {w : World} {b : Nat} {G : Nat → Prop} {seen : List UInt8 → Option (List Sy)} (h : SeenIn w b G seen) (hG : ¬ G b) (n : List UInt8) (l : List Sy) (u : Value) (hl : l.length ≤ 1000) (hu : SymsAt w G l u) :
    ∃ w', (Instr.mapUpdate 34 (.map (some b)) (str n) u).run Tryz.prog w = .ok () w' ∧ SeenIn w' b G (fun x => if x = n then some l else seen x) ∧ Chg [b] w w' := by
  obtain ⟨es, h1, h2⟩ := h
  obtain ⟨w', hr, hm, hc⟩ := run_putM (P := Tryz.prog) Tryz.underlying34 Tryz.underlying9 h1 n u
  refine ⟨w', hr, ⟨_, hm, fun x => ?_⟩, hc⟩
  have hS : ∀ x ∈ [b], ¬ G x := fun x hx => by simp at hx; subst hx; exact hG
  rw [getM_put]
  by_cases hx : x = n
  · subst hx
    simp only [if_pos]
    exact ⟨hl, u, rfl, hu.kept hc hS⟩
  · simp only [if_neg hx, if_neg (Ne.symm hx)]
    have := h2 x
    cases hs : seen x with
    | none => rw [hs] at this; exact this
    | some l' =>
      rw [hs] at this
      obtain ⟨h5, u', h6, h7⟩ := this
      exact ⟨h5, u', h6, h7.kept hc hS⟩
theorem slong_any (n : List UInt8) (hn : n.length ≤ 9223372036854775807) (w : World) : Calls Tryz.prog 14 #[str n] w (fun e w' => e = .returned (.bool (decide (900 < n.length))) ∧ w' = w) := by
  go_enter Tryz.func14, Tryz.ntmps14
  go_wp2_with fail
  go_ret
  exact ⟨by simp; constructor <;> intro h <;> omega, rfl⟩
theorem sindexf_any (l : List (List UInt8)) (hl : l.length ≤ 1000) (hz : ∀ n ∈ l, n.length ≤ 9223372036854775807) (F : Nat → Prop) (v : Value) (w : World) (h : NamesAt w F l v) :
    Calls Tryz.prog 26 #[v, .func (.func 14) #[] #[]] w (fun e w' => ∃ r : Int, e = .returned (.int .i64 r) ∧ -1 ≤ r ∧ r ≤ 1000 ∧ (0 ≤ r ∨ ∀ n ∈ l, n.length ≤ 900) ∧ Chg [] w w') := by
  obtain ⟨a, c, rfl, hac, hrow⟩ := h
  have HROW := Lib.hid hrow; have HZ := Lib.hid hz
  clear hrow hz
  go_enter Tryz.func26, Tryz.ntmps26
  go_wp2_with fail
  go_loopw [5, 8] (fun _ i wr => ∃ k : Nat, i = .int .i64 k ∧ k ≤ l.length ∧ w = wr ∧ ∀ (i : Nat) (x : List UInt8), i < k → l[i]? = some x → x.length ≤ 900) (fun _ i _ => l.length - (intOf i).toNat)
  case atStart => exact ⟨0, rfl, Nat.zero_le _, rfl, fun i x hi => by omega⟩
  case round =>
    obtain ⟨k, rfl, hk, rfl, hno⟩ := hrel
    have HNO := Lib.hid hno
    clear hno
    by_cases hlt : k < l.length
    · obtain ⟨n, hs⟩ : ∃ n, l[k]? = some n := ⟨l[k], List.getElem?_eq_getElem hlt⟩
      obtain ⟨b, o, rfl, d0⟩ := names_cell HROW.out hs
      have HS := Lib.hid hs
      have HI := Lib.hid (slong_any n (HZ.out n (List.mem_of_getElem? hs)) w)
      clear hs
      cases hq : decide (900 < n.length) with
      | true =>
        rw [hq] at HI
        clear hq
        go_wp2_with fail
        refine HI.out.mono ?_; rintro _ _ ⟨rfl, hw⟩; have hw := hw.symm; subst hw
        go_wp2_with fail
        go_ret
        exact ⟨k, rfl, by omega, by omega, .inl (by omega), Chg.refl _ _⟩
      | false =>
        rw [hq] at HI
        have HN := Lib.hid (show n.length ≤ 900 by simpa using hq)
        clear hq
        go_wp2_with fail
        refine HI.out.mono ?_; rintro _ _ ⟨rfl, hw⟩; have hw := hw.symm; subst hw
        go_wp2_with fail
        refine ⟨⟨k + 1, by go_num, by omega, by first | rfl | trivial, fun i x hi hx => ?_⟩, by simp [intOf]; omega⟩
        by_cases he : i < k
        · exact HNO.out i x he hx
        · have : i = k := by omega
          subst this
          rw [HS.out] at hx
          cases hx
          exact HN.out
    · have hall : ∀ n ∈ l, n.length ≤ 900 := fun n hn => by
        obtain ⟨i, hi⟩ := List.getElem?_of_mem hn
        exact HNO.out i n (by have := (List.getElem?_eq_some_iff.1 hi).1; omega) hi
      have HA := Lib.hid hall
      clear hall
      go_wp2_with fail
      go_ret
      exact ⟨-1, rfl, by omega, by omega, .inr HA.out, Chg.refl _ _⟩
theorem scontainsf_any (l : List (List UInt8)) (hl : l.length ≤ 1000) (hz : ∀ n ∈ l, n.length ≤ 9223372036854775807) (F : Nat → Prop) (v : Value) (w : World) (h : NamesAt w F l v) :
    Calls Tryz.prog 13 #[v, .func (.func 14) #[] #[]] w (fun e w' => ∃ q : Bool, e = .returned (.bool q) ∧ (q = true ∨ ∀ n ∈ l, n.length ≤ 900) ∧ Chg [] w w') := by
  have HI := Lib.hid (sindexf_any l hl hz F v w h)
  clear h hz
  go_enter Tryz.func13, Tryz.ntmps13
  go_wp2_with fail
  refine HI.out.mono ?_; rintro _ w1 ⟨r, rfl, h0, h1, hq, hc⟩
  have HQ := Lib.hid hq; have HC := Lib.hid hc
  clear hq hc
  go_wp2_with fail
  go_ret
  refine ⟨decide (0 ≤ r), rfl, ?_, HC.out⟩
  rcases HQ.out with h | h
  · exact .inl (by simpa using h)
  · exact .inr h
theorem short_any (l : List (List UInt8)) (hl : l.length ≤ 9223372036854775807) (hz : ∀ n ∈ l, n.length ≤ 9223372036854775807) (F : Nat → Prop) (a : Option Addr) (c : Nat) (w : World) (h : NamesAt w F l (.slice a l.length c)) :
    Calls Tryz.prog 4 #[.slice a l.length c] w (fun e w' => ∃ q : Bool, e = .returned (.bool q) ∧ (q = true → l.length ≤ 5 ∧ ∀ n ∈ l, n.length ≤ 900) ∧ Chg [] w w') := by
  by_cases h5 : l.length ≤ 5
  · have HC := Lib.hid (scontainsf_any l (by omega) hz F _ w h)
    clear h hz
    go_enter Tryz.func4, Tryz.ntmps4
    go_wp2_with fail
    refine HC.out.mono ?_; rintro _ w1 ⟨q, rfl, hq, hc⟩
    have HQ := Lib.hid hq; have HC1 := Lib.hid hc
    clear hq hc
    cases q with
    | true =>
      go_wp2_with fail
      go_ret
      exact ⟨false, rfl, (fun h => by cases h), HC1.out⟩
    | false =>
      go_wp2_with fail
      go_ret
      exact ⟨true, rfl, fun _ => ⟨h5, by rcases HQ.out with h | h; · cases h
                                         · exact h⟩, HC1.out⟩
  · clear h hz
    go_enter Tryz.func4, Tryz.ntmps4
    go_wp2_with fail
    go_ret
    exact ⟨rfl, Chg.refl _ _⟩
theorem syms_any (l : List (List UInt8)) (hl : l.length ≤ 5) (hz : ∀ n ∈ l, n.length ≤ 900) (F : Nat → Prop) (a : Option Addr) (c : Nat) (w : World) (B : Nat) (hL : Laid w B) (hF : ∀ x, F x → x < w.heap.size) (h : NamesAt w F l (.slice a l.length c)) :
    Calls Tryz.prog 7 #[.slice a l.length c] w (fun e w' => e = .returned (.map (some w.heap.size)) ∧ SeenIn w' w.heap.size (fun x => w.heap.size < x ∧ x < w'.heap.size) (symsF l) ∧ Chg [] w w') := by
  have hmm := @run_makeMap Tryz.prog
  have hB := hL.le
  have HFB := Lib.hid hF
  obtain ⟨_, _, he, _, hrow⟩ := h
  cases he
  obtain ⟨w0, hw0⟩ : ∃ x, w.alloc (.map #[] 0) = x := ⟨_, rfl⟩
  have hc0 : Chg [] w w0 := by rw [← hw0]; exact (Chg.refl _ _).alloc _
  have hs0 : w0.heap.size = w.heap.size + 1 := by rw [← hw0]; simp
  have HIN := Lib.hid (show SeenIn w0 w.heap.size (fun x => w.heap.size < x ∧ x < w0.heap.size) (symsF []) by rw [← hw0]; exact SeenIn.made w _)
  have HROW := Lib.hid (hrow.kept hc0 (by simp)); have HL := Lib.hid (hL.kept hc0 (by simp)); have HC0 := Lib.hid hc0; have HZ := Lib.hid hz
  have HS0 := Lib.hid hs0
  clear hrow hL hc0 hz hs0 hF
  go_enter Tryz.func7, Tryz.ntmps7
  go_wp2_with fail
  clear hw0
  go_loopw [4, 5, 6] (fun i _ _ wr => ∃ k : Nat, i = .int .i64 k ∧ k ≤ l.length ∧ Chg [w.heap.size] w0 wr ∧ SeenIn wr w.heap.size (fun x => w.heap.size < x ∧ x < wr.heap.size) (symsF (l.take k))) (fun i _ _ _ => l.length - (intOf i).toNat)
  case atStart => exact ⟨0, rfl, Nat.zero_le _, Chg.refl _ _, HIN.out⟩
  case round =>
    obtain ⟨k, rfl, hk, hc, hin⟩ := hrel
    have HC := Lib.hid hc; have HI := Lib.hid hin
    clear hc hin
    by_cases hlt : k < l.length
    · obtain ⟨t, ht⟩ : ∃ t, l[k]? = some t := ⟨l[k], List.getElem?_eq_getElem hlt⟩
      obtain ⟨b, o, rfl, d0⟩ := names_cell (HROW.out.kept HC.out (fun x hx hn => by simp at hx; have := HFB.out _ hn; omega)) ht
      have htz := HZ.out t (List.mem_of_getElem? ht)
      have HSN := Lib.hid (show symsF (l.take (k + 1)) = symsStep (symsF (l.take k)) t by rw [take_snoc ht, symsF_snoc])
      have HPA := Lib.hid (parse_any t (by omega) wr B (HL.out.kept HC.out (fun x hx => by simp at hx; omega)))
      clear ht
      cases hp : parse t with
      | bad en q =>
        rw [hp] at HPA
        have HSN := Lib.hid (show symsF (l.take (k + 1)) = symsF (l.take k) by rw [HSN.out, step_bad hp])
        clear hp
        go_wp2_with fail
        refine HPA.out.mono ?_; rintro _ w1 ⟨hc1, b1, rfl, _, _⟩
        have hz := Blk.new w1 #[str [], nils, nils, nils, nils] 29
        obtain ⟨wA, hwA⟩ : ∃ w', w1.alloc (.cells #[str [], nils, nils, nils, nils] 29) = w' := ⟨_, rfl⟩
        rw [hwA] at hz
        have hcA : Chg [] w1 wA := by rw [← hwA]; exact (Chg.refl _ _).alloc _
        obtain ⟨wF, hwF, hcF, hbF⟩ := set5 (str []) nils nils nils nils hz
        have hcw : Chg [] wr wF := hc1.then (hcA.trans hcF (fun x hx => .inr (by simp at hx; omega)))
        have z0 := hz.cell 0 _ rfl; have z1 := hz.cell 1 _ rfl; have z2 := hz.cell 2 _ rfl; have z3 := hz.cell 3 _ rfl; have z4 := hz.cell 4 _ rfl
        have y0 := hz.frozen 0; have y1 := hz.frozen 1; have y2 := hz.frozen 2; have y3 := hz.frozen 3; have y4 := hz.frozen 4
        have hsz := hcw.size
        have HIF := Lib.hid (show SeenIn wF w.heap.size (fun x => w.heap.size < x ∧ x < wF.heap.size) (symsF (l.take (k + 1))) by
          rw [HSN.out]; exact (HI.out.kept hcw (by simp) (by simp)).mono fun x hx => ⟨hx.1, by have := hx.2; omega⟩)
        have HCF := Lib.hid (HC.out.then hcw.weak)
        clear hc1 hz hcA hcF hbF hcw
        go_wp2_with fail
        exact ⟨⟨k + 1, by go_num, by omega, HCF.out, HIF.out⟩, by simp [intOf]; omega⟩
      | ok m =>
        rw [hp] at HPA
        have HSN := Lib.hid (show symsF (l.take (k + 1)) = fun n => if n = m.name then some (ofM m) else symsF (l.take k) n by rw [HSN.out, step_ok hp])
        have HWF := Lib.hid (parse_sp hp).1
        clear hp
        go_wp2_with fail
        refine HPA.out.mono ?_; rintro _ w1 ⟨hc1, v, rfl, hmod⟩
        obtain ⟨aia, cia, ava, cva, apa, cpa, aba, cba, rfl, hgv, hpv⟩ := mod_parts hmod
        have hz := Blk.new w1 #[str [], nils, nils, nils, nils] 29
        obtain ⟨wA, hwA⟩ : ∃ w', w1.alloc (.cells #[str [], nils, nils, nils, nils] 29) = w' := ⟨_, rfl⟩
        rw [hwA] at hz
        have hcA : Chg [] w1 wA := by rw [← hwA]; exact (Chg.refl _ _).alloc _
        obtain ⟨wF, hwF, hcF, hbF⟩ := set5 (str m.name) (.slice aia m.imports.length cia) (.slice ava m.vars.length cva) (.slice apa m.procs.length cpa) (.slice aba m.body.len cba) hz
        have hcG : Chg [] w1 wF := hcA.trans hcF (fun x hx => .inr (by simp at hx; omega))
        have hcw : Chg [] wr wF := hc1.then hcG
        have z0 := hz.cell 0 _ rfl; have z1 := hz.cell 1 _ rfl; have z2 := hz.cell 2 _ rfl; have z3 := hz.cell 3 _ rfl; have z4 := hz.cell 4 _ rfl
        have y0 := hz.frozen 0; have y1 := hz.frozen 1; have y2 := hz.frozen 2; have y3 := hz.frozen 3; have y4 := hz.frozen 4
        have hsz := hcw.size
        have HIF := Lib.hid (show SeenIn wF w.heap.size (fun x => w.heap.size < x ∧ x < wF.heap.size) (symsF (l.take k)) from
          (HI.out.kept hcw (by simp) (by simp)).mono fun x hx => ⟨hx.1, by have := hx.2; omega⟩)
        have HCF := Lib.hid (HC.out.then hcw.weak)
        have HBF := Lib.hid hbF
        have HGV := Lib.hid (hgv.kept hcG (by simp)); have HPV := Lib.hid (hpv.kept hcG (by simp))
        clear hc1 hz hcA hcF hbF hcw hcG hmod hgv hpv
        go_wp2_with fail
        clear hwA hwF z0 z1 z2 z3 z4 y0 y1 y2 y3 y4 d0
        obtain ⟨wD, hwD⟩ : ∃ x, x = wF.drew := ⟨_, rfl⟩
        have hcD : Chg [] wF wD := by rw [hwD]; exact (Chg.refl [] wF).drew
        have HBD := Lib.hid (HBF.out.kept hcD (by simp))
        have m0 := HBD.out.cell 0 _ rfl; have m1 := HBD.out.cell 1 _ rfl; have m2 := HBD.out.cell 2 _ rfl; have m3 := HBD.out.cell 3 _ rfl; have m4 := HBD.out.cell 4 _ rfl
        have Z := Lib.hid (Zone.of (X := []) (w0 := wD) m0 (by simp))
        have HOF := Lib.hid (of_any m.vars m.procs HWF.out.fewv HWF.out.fewp (New wr w1) m.name aia m.imports.length cia aba m.body.len cba _ _ wD (HGV.out.kept hcD (by simp)) (HPV.out.kept hcD (by simp)))
        have HCD := Lib.hid hcD
        clear hcD
        refine wp_region_T [] rfl (by kernel_rfl) rfl ?_
        rw [← hwD]
        clear hwD
        have hS : Chg [] wD wD := Chg.refl _ _
        repeat
          (with_reducible show wpX _ _ _ _ _ _ _ _
           first
             | refine wpX_nil ?_
             | refine wpX_skip rfl ?_
             | refine wpX_mv rfl rfl (by kernel_rfl) (fun _ _ => ?_)
             | refine wpX_ldC rfl rfl rfl (by exact Z.out) (by assumption) (fun _ _ => ?_)
             | refine wpX_ef' rfl rfl rfl (fun _ _ => ?_)
           go_wp2_with fail)
        refine HOF.out.mono ?_; rintro _ w2 ⟨sv, rfl, hsy, hc2⟩
        have hS : Chg [] wD w2 := hc2
        have hcx := HCD.out.then hc2
        have hs2 := hcx.size
        have hcs := HCF.out.size
        have hs0 := HS0.out
        have hsd := HCD.out.size
        obtain ⟨w3, hrun, hin3, hc3⟩ := seen_put (G := fun x => w.heap.size < x ∧ x < w2.heap.size) ((HIF.out.kept hcx (by simp) (by simp)).mono fun x hx => ⟨hx.1, by have := hx.2; omega⟩) (fun h => by have := h.1; omega) m.name (ofM m) sv (by have := seenL_len HWF.out.fewv HWF.out.fewp; show (insSort (seenL m.vars m.procs)).length ≤ 1000; omega) (hsy.mono fun x hx => ⟨by have := hx.1; omega, hx.2⟩)
        have hs3 : w2.heap.size ≤ w3.heap.size := hc3.size
        have HI3 := Lib.hid (show SeenIn w3 w.heap.size (fun x => w.heap.size < x ∧ x < w3.heap.size) (symsF (l.take (k + 1))) by
          rw [HSN.out]; exact hin3.mono fun x hx => ⟨hx.1, by have := hx.2; omega⟩)
        have HC3 := Lib.hid (show Chg [w.heap.size] w0 w3 from (HCF.out.then hcx.weak).then hc3)
        clear hsy hc2 hcx hin3 hc3
        go_wp2_with fail
        refine And.intro hS ?_
        repeat
          (with_reducible show wpX _ _ _ _ _ _ _ _
           first
             | refine wpX_nil ?_
             | refine wpX_skip rfl ?_
             | refine wpX_mv rfl rfl (by kernel_rfl) (fun _ _ => ?_)
             | refine wpX_ldC rfl rfl rfl (by exact Z.out) (by assumption) (fun _ _ => ?_)
             | refine wpX_ef' rfl rfl rfl (fun _ _ => ?_)
           go_wp2_with fail)
        refine stepX_ef rfl rfl (fun _ _ => ?_)
        change Oper.wp _ (Oper.mk ..) ..
        go_wp2_with fail
        exact ⟨⟨k + 1, by go_num, by omega, HC3.out, HI3.out⟩, by simp [intOf]; omega⟩
    · have HR := Lib.hid (show symsF (l.take k) = symsF l by rw [List.take_of_length_le (by omega)])
      go_wp2_with fail
      go_ret
      exact ⟨rfl, by rw [← HR.out]; exact HI.out, HC0.out.trans HC.out (fun x hx => .inr (by simp at hx; omega))⟩
end Go.Proofs.YtoeblajmelbbmaaGreatDoor
