/- What holds after each set of operations of the statement with the map (marquetryref.Write, the variables). -/
import Derived.Test.YtjgfclhempjinaaGreatDoorRegion4
import Derived.Test.YtjgfclhempjinaaGreatDoorRefNum
namespace Go.Mq
open Go Go.RowKit
/-- Which operation writes which slot, but for the map's. -/
def gsl : List (Nat × Nat) := [(0, 107), (1, 108), (2, 109), (3, 110), (4, 111), (5, 112), (6, 113), (7, 114), (8, 115), (13, 118), (14, 119), (15, 120), (16, 121), (17, 122), (18, 5)]
def gout : List Nat := [5, 107, 108, 109, 110, 111, 112, 113, 114, 115, 116, 117, 118, 119, 120, 121, 122]
def mT (n : Nat) : MapEntry := { key := .bool true, val := .string ⟨#[1]⟩, born := n }
def mF (n : Nat) : MapEntry := { key := .bool false, val := .string ⟨#[0]⟩, born := n }
def MapOK (d10 d11 : Prop) (es : Array MapEntry) : Prop :=
  (¬ d10 → ¬ d11 → es = #[]) ∧ (d10 → ¬ d11 → ∃ n, es = #[mT n]) ∧ (¬ d10 → d11 → ∃ n, es = #[mF n]) ∧ (d10 → d11 → ∃ n k, es = #[mT n, mF k] ∨ es = #[mF n, mT k])
structure GI (a0 : Act) (w0 : World) (sp : Nat → Value) (D : Nat → Prop) (a : Act) (w : World) : Prop where
  dfr : a.defers = a0.defers
  sz : a.tmps.size = a0.tmps.size
  old : ∀ s, s ∉ gout → a.tmps[s]? = a0.tmps[s]?
  old5 : ¬ D 18 → a.tmps[5]? = a0.tmps[5]?
  val : ∀ i s, (i, s) ∈ gsl → D i → a.tmps[s]? = some (sp s)
  map : D 9 → ∃ m c es, a.tmps[116]? = some (.map (some m)) ∧ w0.heap.size ≤ m ∧ w.heap[m]? = some (.map es c) ∧ MapOK (D 10) (D 11) es ∧ (D 12 → a.tmps[117]? = some (.map (some m)))
  cl : (D 10 → D 9) ∧ (D 11 → D 9) ∧ (D 12 → D 9)
  c18 : D 18 → D 0
  c12 : D 12 → D 10 ∧ D 11
  chg : Chg [] w0 w
variable {a0 : Act} {w0 : World} {sp : Nat → Value} {D : Nat → Prop} {a : Act} {w w' : World}
theorem put_same {s : Nat} {v : Value} (h : s < a.tmps.size) : (a.put (some s) v).tmps[s]? = some v := by simp [Act.put, h]
theorem put_other {s r : Nat} {v : Value} (h : s ≠ r) : (a.put (some s) v).tmps[r]? = a.tmps[r]? := by simp [Act.put, Array.getElem?_setIfInBounds, h]
theorem eval_of {s : Nat} {v : Value} (h : a.tmps[s]? = some v) : a.eval (.tmp s) = v := by simp [Act.eval, Array.getD_eq_getD_getElem?, h]
theorem gsl_inj : ∀ p ∈ gsl, ∀ q ∈ gsl, (p.1 = q.1 ↔ p.2 = q.2) := by decide
theorem gsl_no : ∀ p ∈ gsl, p.1 ≠ 9 ∧ p.1 ≠ 10 ∧ p.1 ≠ 11 ∧ p.1 ≠ 12 ∧ p.2 ≠ 116 ∧ p.2 ≠ 117 ∧ p.2 ∈ gout ∧ (p.1 ≠ 18 → p.2 ≠ 5) := by decide
theorem both {A B C E : Prop} (h : A ∧ B) : (A ∨ C) ∧ (B ∨ E) := ⟨.inl h.1, .inl h.2⟩
theorem or_no {D : Nat → Prop} {i k : Nat} (h : i ≠ k) : (D k ∨ k = i) = D k := by
  apply propext
  exact ⟨fun h2 => h2.elim id (fun e => absurd e.symm h), .inl⟩
theorem GI.put {i s : Nat} (h : GI a0 w0 sp D a w) (hi : (i, s) ∈ gsl) (hs : s < a0.tmps.size) (h18 : i = 18 → D 0) : GI a0 w0 sp (fun j => D j ∨ j = i) (a.put (some s) (sp s)) w := by
  obtain ⟨n9, n10, n11, n12, m1, m2, ho, h5⟩ := gsl_no _ hi
  simp only at n9 n10 n11 n12 m1 m2 ho h5
  refine ⟨h.dfr, by simp [Act.put, h.sz], fun r hr => ?_, fun hn => ?_, fun i' s' hm hd => ?_, fun h9 => ?_, ?_, fun hh => .inl (hh.elim h.c18 (fun e => h18 e.symm)), fun hh => both (hh.elim h.c12 (fun e => absurd e.symm n12)), h.chg⟩
  · rw [put_other (fun e => hr (by rw [← e]; exact ho))]; exact h.old r hr
  · rw [put_other (h5 (fun e => hn (.inr e.symm)))]; exact h.old5 (fun h18 => hn (.inl h18))
  · by_cases he : i' = i
    · have hs' := (gsl_inj _ hm _ hi).1 he
      simp only at hs'
      subst hs'
      exact put_same (by rw [h.sz]; exact hs)
    · rw [put_other (fun e => he ((gsl_inj _ hm _ hi).2 e.symm))]
      exact h.val i' s' hm (hd.elim id (fun e => absurd e he))
  · obtain ⟨m, c, es, g1, g2, g3, g4, g5⟩ := h.map (h9.elim id (fun e => absurd e.symm n9))
    refine ⟨m, c, es, by rw [put_other m1]; exact g1, g2, g3, by rw [or_no n10, or_no n11]; exact g4, fun h12 => ?_⟩
    rw [put_other m2]; exact g5 (h12.elim id (fun e => absurd e.symm n12))
  · obtain ⟨c1, c2, c3⟩ := h.cl
    exact ⟨fun h => .inl (c1 (h.elim id (fun e => absurd e.symm n10))), fun h => .inl (c2 (h.elim id (fun e => absurd e.symm n11))), fun h => .inl (c3 (h.elim id (fun e => absurd e.symm n12)))⟩
theorem GI.world (h : GI a0 w0 sp D a w) (hc : Chg [] w w') : GI a0 w0 sp D a w' := by
  refine ⟨h.dfr, h.sz, h.old, h.old5, h.val, fun h9 => ?_, h.cl, h.c18, h.c12, h.chg.then hc⟩
  obtain ⟨m, c, es, g1, g2, g3, g4, g5⟩ := h.map h9
  exact ⟨m, c, es, g1, g2, by rw [hc.block m (Array.getElem?_eq_some_iff.1 g3).1 (by simp)]; exact g3, g4, g5⟩
theorem GI.make (h : GI a0 w0 sp D a w) (h9 : ¬ D 9) (hs : 116 < a0.tmps.size) : GI a0 w0 sp (fun j => D j ∨ j = 9) (a.put (some 116) (.map (some w.heap.size))) (w.alloc (.map #[] 0)) := by
  obtain ⟨c1, c2, c3⟩ := h.cl
  have n10 : ¬ D 10 := fun e => h9 (c1 e)
  have n11 : ¬ D 11 := fun e => h9 (c2 e)
  have n12 : ¬ D 12 := fun e => h9 (c3 e)
  refine ⟨h.dfr, by simp [Act.put, h.sz], fun r hr => ?_, fun hn => ?_, fun i' s' hm hd => ?_, fun _ => ?_, ⟨fun _ => .inr rfl, fun _ => .inr rfl, fun _ => .inr rfl⟩, fun hh => .inl (hh.elim h.c18 (fun e => by cases e)), fun hh => both (hh.elim h.c12 (fun e => by cases e)), h.chg.alloc _⟩
  · rw [put_other (fun e => hr (by rw [← e]; decide))]; exact h.old r hr
  · rw [put_other (by decide)]; exact h.old5 (fun h18 => hn (.inl h18))
  · obtain ⟨n9, _, _, _, m1, _, _, _⟩ := gsl_no _ hm
    rw [put_other (Ne.symm m1)]
    exact h.val i' s' hm (hd.elim id (fun e => absurd e n9))
  · refine ⟨w.heap.size, 0, #[], put_same (by rw [h.sz]; exact hs), h.chg.size, heap_alloc_new w _, ?_, fun h12 => ?_⟩
    · rw [or_no (by decide), or_no (by decide)]
      exact ⟨fun _ _ => rfl, fun e => absurd e n10, fun _ e => absurd e n11, fun e => absurd e n10⟩
    · rcases h12 with e | e
      · exact absurd e n12
      · cases e
theorem heap_setObj {w : World} {m : Nat} {o : Obj} (h : m < w.heap.size) : ({ w with heap := w.heap.setIfInBounds m o } : World).heap[m]? = some o := by simp [h]
theorem GI.ins {i : Nat} {es es' : Array MapEntry} {m c c' : Nat} (h : GI a0 w0 sp D a w) (hi : i = 10 ∨ i = 11) (h9 : D 9) (hm : a.tmps[116]? = some (.map (some m))) (hb : w.heap[m]? = some (.map es c))
    (hok : MapOK (D 10 ∨ 10 = i) (D 11 ∨ 11 = i) es') : GI a0 w0 sp (fun j => D j ∨ j = i) a { w with heap := w.heap.setIfInBounds m (.map es' c') } := by
  have hml := (Array.getElem?_eq_some_iff.1 hb).1
  obtain ⟨m', c0, es0, g1, g2, g3, g4, g5⟩ := h.map h9
  rw [hm] at g1
  have hmm : m = m' := by cases g1; rfl
  subst hmm
  obtain ⟨c1, c2, c3⟩ := h.cl
  have i18 : i ≠ 18 := by omega
  have i9 : i ≠ 9 := by omega
  have i12 : i ≠ 12 := by omega
  refine ⟨h.dfr, h.sz, h.old, fun hn => h.old5 (fun h18 => hn (.inl h18)), fun i' s' hmm hd => ?_, fun _ => ?_, ⟨fun _ => .inl h9, fun _ => .inl h9, fun _ => .inl h9⟩, fun hh => .inl (hh.elim h.c18 (fun e => absurd e.symm i18)), fun hh => both (hh.elim h.c12 (fun e => absurd e.symm i12)), ?_⟩
  · obtain ⟨_, n10, n11, _⟩ := gsl_no _ hmm
    exact h.val i' s' hmm (hd.elim id (fun e => by simp only at n10 n11; omega))
  · exact ⟨m, c', es', hm, g2, heap_setObj hml, hok, fun h12 => g5 (h12.elim id (fun e => absurd e.symm i12))⟩
  · exact ⟨h.chg.os, h.chg.tape, h.chg.output, by simpa using h.chg.size, fun k hk hn => by
      rw [← h.chg.block k hk hn]
      show (w.heap.setIfInBounds m _)[k]? = _
      rw [Array.getElem?_setIfInBounds_ne (by omega)]⟩
theorem GI.mv (h : GI a0 w0 sp D a w) (h9 : D 9) (h10 : D 10) (h11 : D 11) {m : Nat} (hm : a.tmps[116]? = some (.map (some m))) (hs : 117 < a0.tmps.size) : GI a0 w0 sp (fun j => D j ∨ j = 12) (a.put (some 117) (.map (some m))) w := by
  obtain ⟨m', c, es, g1, g2, g3, g4, g5⟩ := h.map h9
  rw [hm] at g1
  have hmm : m = m' := by cases g1; rfl
  subst hmm
  obtain ⟨c1, c2, c3⟩ := h.cl
  refine ⟨h.dfr, by simp [Act.put, h.sz], fun r hr => ?_, fun hn => ?_, fun i' s' hmm hd => ?_, fun _ => ?_, ⟨fun _ => .inl h9, fun _ => .inl h9, fun _ => .inl h9⟩, fun hh => .inl (hh.elim h.c18 (fun e => by cases e)), fun _ => ⟨.inl h10, .inl h11⟩, h.chg⟩
  · rw [put_other (fun e => hr (by rw [← e]; decide))]; exact h.old r hr
  · rw [put_other (by decide)]; exact h.old5 (fun h18 => hn (.inl h18))
  · obtain ⟨_, _, _, n12, _, m2, _, _⟩ := gsl_no _ hmm
    rw [put_other (Ne.symm m2)]
    exact h.val i' s' hmm (hd.elim id (fun e => absurd e n12))
  · refine ⟨m, c, es, by rw [put_other (by decide)]; exact hm, g2, g3, by rw [or_no (by decide), or_no (by decide)]; exact g4, fun _ => put_same (by rw [h.sz]; exact hs)⟩
theorem gi_start : GI a w sp (fun _ => False) a w := ⟨rfl, rfl, fun _ _ => rfl, fun _ => rfl, fun _ _ _ h => h.elim, fun h => h.elim, ⟨fun h => h, fun h => h, fun h => h⟩, fun h => h, fun h => h.elim, Chg.refl _ _⟩
/-- Behind all of them. -/
theorem GI.fin (h : GI a0 w0 sp D a w) (hD : ∀ i, i < 19 → D i) (hs : 122 < a0.tmps.size) : ∃ m, a = { tmps := ((((((((((((((((a0.tmps.setIfInBounds 107 (sp 107)).setIfInBounds 108 (sp 108)).setIfInBounds 109 (sp 109)).setIfInBounds 110 (sp 110)).setIfInBounds 111 (sp 111)).setIfInBounds 112 (sp 112)).setIfInBounds 113 (sp 113)).setIfInBounds 114 (sp 114)).setIfInBounds 115 (sp 115)).setIfInBounds 116 (.map (some m))).setIfInBounds 117 (.map (some m))).setIfInBounds 118 (sp 118)).setIfInBounds 119 (sp 119)).setIfInBounds 120 (sp 120)).setIfInBounds 121 (sp 121)).setIfInBounds 122 (sp 122)).setIfInBounds 5 (sp 5), defers := a0.defers } := by
  obtain ⟨m, c, es, g1, g2, g3, g4, g5⟩ := h.map (hD 9 (by omega))
  have g5 := g5 (hD 12 (by omega))
  refine ⟨m, ?_⟩
  have hv : ∀ i s, (i, s) ∈ gsl → a.tmps[s]? = some (sp s) := fun i s hm => h.val i s hm (hD i (by
    have : ∀ p ∈ gsl, p.1 < 19 := by decide
    exact this _ hm))
  have ht : a.tmps = ((((((((((((((((a0.tmps.setIfInBounds 107 (sp 107)).setIfInBounds 108 (sp 108)).setIfInBounds 109 (sp 109)).setIfInBounds 110 (sp 110)).setIfInBounds 111 (sp 111)).setIfInBounds 112 (sp 112)).setIfInBounds 113 (sp 113)).setIfInBounds 114 (sp 114)).setIfInBounds 115 (sp 115)).setIfInBounds 116 (.map (some m))).setIfInBounds 117 (.map (some m))).setIfInBounds 118 (sp 118)).setIfInBounds 119 (sp 119)).setIfInBounds 120 (sp 120)).setIfInBounds 121 (sp 121)).setIfInBounds 122 (sp 122)).setIfInBounds 5 (sp 5) := by
    apply Array.ext_getElem?
    intro r
    by_cases hr : r ∈ gout
    · simp only [gout, List.mem_cons, List.not_mem_nil, or_false] at hr
      rcases hr with rfl | rfl | rfl | rfl | rfl | rfl | rfl | rfl | rfl | rfl | rfl | rfl | rfl | rfl | rfl | rfl | rfl
      all_goals first
        | (rw [hv 18 _ (by decide)]; simp [Array.getElem?_setIfInBounds]; omega)
        | (rw [g1]; simp [Array.getElem?_setIfInBounds]; omega)
        | (rw [g5]; simp [Array.getElem?_setIfInBounds]; omega)
        | (first | rw [hv 0 _ (by decide)] | rw [hv 1 _ (by decide)] | rw [hv 2 _ (by decide)] | rw [hv 3 _ (by decide)] | rw [hv 4 _ (by decide)] | rw [hv 5 _ (by decide)] | rw [hv 6 _ (by decide)] | rw [hv 7 _ (by decide)] | rw [hv 8 _ (by decide)] | rw [hv 13 _ (by decide)] | rw [hv 14 _ (by decide)] | rw [hv 15 _ (by decide)] | rw [hv 16 _ (by decide)] | rw [hv 17 _ (by decide)]
           simp [Array.getElem?_setIfInBounds]; omega)
    · rw [h.old r hr]
      simp only [gout, List.mem_cons, List.not_mem_nil, or_false, not_or] at hr
      obtain ⟨h1, h2, h3, h4, h5, h6, h7, h8, h9, h10, h11, h12, h13, h14, h15, h16, h17⟩ := hr
      simp [Array.getElem?_setIfInBounds, Ne.symm h1, Ne.symm h2, Ne.symm h3, Ne.symm h4, Ne.symm h5, Ne.symm h6, Ne.symm h7, Ne.symm h8, Ne.symm h9, Ne.symm h10, Ne.symm h11, Ne.symm h12, Ne.symm h13, Ne.symm h14, Ne.symm h15, Ne.symm h16, Ne.symm h17]
  cases a with
  | mk t d =>
    have := h.dfr
    simp only at ht this
    rw [ht, this]
set_option maxRecDepth 100000
section
variable {P : Program} {T K E : TypeId}
theorem rgetm {r : Nat} {es : Array MapEntry} {clock : Nat} (hb : w.heap[r]? = some (.map es clock)) : (getObj r).run P w = .ok (.map es clock) w := by simp [getObj, Sem.run, hb]
theorem rsetm {r : Nat} {es : Array MapEntry} {clock : Nat} (o : Obj) (hb : w.heap[r]? = some (.map es clock)) : (setObj r o).run P w = .ok () { w with heap := w.heap.setIfInBounds r o } := by simp [setObj, Sem.run, hb]
theorem run_ck (hK : P.underlying K = some .bool) (e b : Bool) : (Instr.checkKey e 10000 K (.bool b)).run P w = .ok () w := by
  rw [show (10000 : Nat) = 9999 + 1 from rfl, Instr.checkKey]
  simp [run_underlying hK]
theorem run_ins (hT : P.underlying T = some (.map K E)) (hK : P.underlying K = some .bool) {m c : Nat} {es : Array MapEntry} (hb : w.heap[m]? = some (.map es c)) (b : Bool) (v : Value) (hes : es = #[] ∨ ∃ x n, es = #[{ key := .bool (!b), val := x, born := n }]) :
    (Instr.mapUpdate T (.map (some m)) (.bool b) v).run P w = .ok () { w with heap := w.heap.setIfInBounds m (.map (es.push { key := .bool b, val := v, born := c }) (c + 1)) } := by
  have hm := (Array.getElem?_eq_some_iff.1 hb).1
  rcases hes with rfl | ⟨x, n, rfl⟩
  · simp [Instr.mapUpdate, run_underlying hT, rgetm hb, run_ck hK, run_underlying hK, Instr.findKey, Instr.findNow, rsetm _ hb]
  · cases b <;> simp [Instr.mapUpdate, run_underlying hT, rgetm hb, run_ck hK, run_underlying hK, Instr.findKey, Instr.findNow, Instr.sameNow, rsetm _ hb]
theorem run_look (hT : P.underlying T = some (.map K E)) (hK : P.underlying K = some .bool) {m c : Nat} {es : Array MapEntry} (hb : w.heap[m]? = some (.map es c)) (b : Bool) (hes : ∃ n k, es = #[mT n, mF k] ∨ es = #[mF n, mT k]) :
    (Instr.lookup T (.map (some m)) (.bool b) false).run P w = .ok (.string (bs [if b then 1 else 0])) w := by
  obtain ⟨n, k, rfl | rfl⟩ := hes
  · cases b <;> simp [Instr.lookup, run_underlying hT, rgetm hb, run_ck hK, run_underlying hK, Instr.findKey, Instr.findNow, Instr.sameNow, mT, mF]
  · cases b <;> simp [Instr.lookup, run_underlying hT, rgetm hb, run_ck hK, run_underlying hK, Instr.findKey, Instr.findNow, Instr.sameNow, mT, mF]
end
end Go.Mq
