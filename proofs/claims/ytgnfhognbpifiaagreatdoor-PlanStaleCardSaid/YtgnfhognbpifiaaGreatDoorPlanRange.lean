/- A range over a map by names: which names are still to come. -/
import Derived.Test.YtgnfhognbpifiaaGreatDoorPlans
import Derived.Maps.RangeWalk
namespace Go.Mq.Plan
open Go Go.RowKit Go.Mq Go.Mq.Tree Go.MapKept
open Go.ChangeMaps (setBlock)
/-- Block r is an iterator over the map in block b; the names of rest are still to come. -/
def Ranging (w : World) (b r : Nat) (es : List (List UInt8 × Value)) (rest : List Nm) : Prop := ∃ arr clock since seen c0, w.heap[b]? = some (.map arr clock) ∧ arr.toList.map (fun e => (e.key, e.val)) = (es.map fun p => (str p.1, p.2)) ∧ Stamped arr clock ∧
  w.heap[r]? = some (.mapIter (some b) since seen c0) ∧ (∀ x ∈ arr.toList, x.born < since) ∧ since ≤ c0 ∧ since ≤ clock ∧ (leftOf arr seen).toList.map (·.key) = rest.map str
theorem Ranging.left_eq {w : World} {b r : Nat} {es : List (List UInt8 × Value)} {rest : List Nm} (h : Ranging w b r es rest) : w.rangeLeft b r = rest.length := by
  obtain ⟨arr, clock, since, seen, c0, hb, _, _, hr, _, _, _, hl⟩ := h
  have := congrArg List.length hl
  simp only [List.length_map, Array.length_toList] at this
  simp only [World.rangeLeft, hb, hr]
  exact this
theorem Ranging.map {w : World} {b r : Nat} {es : List (List UInt8 × Value)} {rest : List Nm} (h : Ranging w b r es rest) : MapIs w b es := by
  obtain ⟨arr, clock, since, seen, c0, hb, he, hst, _⟩ := h
  exact ⟨arr, clock, hb, he, hst⟩
theorem Ranging.lt {w : World} {b r : Nat} {es : List (List UInt8 × Value)} {rest : List Nm} (h : Ranging w b r es rest) : r < w.heap.size := by
  obtain ⟨arr, clock, since, seen, c0, _, _, _, hr, _⟩ := h
  exact (Array.getElem?_eq_some_iff.1 hr).1
theorem Ranging.kept {S : List Nat} {w w' : World} {b r : Nat} {es : List (List UInt8 × Value)} {rest : List Nm} (h : Ranging w b r es rest) (hc : Chg S w w') (hb : b ∉ S) (hr : r ∉ S) : Ranging w' b r es rest := by
  obtain ⟨arr, clock, since, seen, c0, h1, h2, h3, h4, h5⟩ := h
  exact ⟨arr, clock, since, seen, c0, by rw [hc.block b (Array.getElem?_eq_some_iff.1 h1).1 hb]; exact h1, h2, h3, by rw [hc.block r (Array.getElem?_eq_some_iff.1 h4).1 hr]; exact h4, h5⟩
theorem entry_name {l : List MapEntry} {es : List (List UInt8 × Value)} (he : l.map (fun e => (e.key, e.val)) = es.map fun p => (str p.1, p.2)) (hk : (l.map (·.key)).Nodup) {e : MapEntry} (hm : e ∈ l) : ∃ n, e.key = str n ∧ getM es n = some e.val ∧ n ∈ es.map (·.1) := by
  induction l generalizing es with
  | nil => cases hm
  | cons x r ih =>
    cases es with
    | nil => simp at he
    | cons p es =>
      obtain ⟨k, u⟩ := p
      simp only [List.map_cons, List.cons.injEq, Prod.mk.injEq] at he
      obtain ⟨⟨h1, h2⟩, h3⟩ := he
      rw [List.map_cons, List.nodup_cons] at hk
      rcases List.mem_cons.1 hm with rfl | hm
      · exact ⟨k, h1, by rw [getM, if_pos rfl, h2], by simp⟩
      · obtain ⟨n, a1, a2, a3⟩ := ih h3 hk.2 hm
        refine ⟨n, a1, ?_, by simp at a3 ⊢; exact .inr a3⟩
        rw [getM, if_neg ?_]
        · exact a2
        · intro hkn
          refine hk.1 ?_
          rw [h1, hkn, ← a1]
          exact List.mem_map_of_mem hm
section
variable {P : Program} {w : World} {b r : Nat} {es : List (List UInt8 × Value)} {rest : List Nm}
theorem map_range {t k e : TypeId} (ht : P.underlying t = some (.map k e)) (h : MapIs w b es) : ∃ w', (Instr.range t (.map (some b))).run P w = .ok (.pointer (some ⟨w.heap.size, 0, none⟩)) w' ∧ Ranging w' b w.heap.size es (es.map (·.1)) ∧ Chg [] w w' ∧ w'.heap.size = w.heap.size + 1 := by
  have hlt := h.lt
  obtain ⟨arr, clock, hb, he, hst⟩ := h
  refine ⟨_, run_range_map w t k e b arr clock ht hb, ⟨arr, clock, clock, #[], clock, ((MapKept.heap_alloc w _).2 b hlt).trans hb, he, hst, (MapKept.heap_alloc w _).1, hst.1, Nat.le_refl _, Nat.le_refl _, ?_⟩, (Chg.refl [] w).alloc _, by simp⟩
  have := congrArg (List.map (·.1)) he
  simp only [List.map_map, Function.comp_def] at this
  rw [show leftOf arr #[] = arr from Array.filter_eq_self.2 (by simp)]
  simpa [List.map_map, Function.comp_def] using this
theorem map_next (h : Ranging w b r es rest) (hne : r ≠ b) (ty : TypeId) : (rest = [] ∧ (Instr.next (.pointer (some ⟨r, 0, none⟩)) false ty).run P w = .ok (.tuple #[.bool false]) w) ∨
    ∃ n v rest' w', n ∈ rest ∧ n ∈ es.map (·.1) ∧ getM es n = some v ∧ (∀ x, x ∈ rest → x ≠ n → x ∈ rest') ∧ rest'.length < rest.length ∧ (Instr.next (.pointer (some ⟨r, 0, none⟩)) false ty).run P w = .ok (.tuple #[.bool true, str n, v]) w' ∧ Ranging w' b r es rest' ∧ Chg [r] w w' ∧
      (Instr.entry (.pointer (some ⟨r, 0, none⟩))).run P w' = .ok (.tuple #[str n, v]) w' := by
  obtain ⟨arr, clock, since, seen, c0, hb, he, hst, hr, hold, hsc, hsk, hl⟩ := h
  rcases run_next_at (P := P) w ty r b since c0 seen arr clock hr hb hold hsc with ⟨h0, hrun⟩ | ⟨e, hel, w1, hal, hrun⟩
  · refine .inl ⟨?_, hrun⟩
    have := congrArg List.length hl
    simp only [List.length_map, Array.length_toList, h0] at this
    exact List.eq_nil_of_length_eq_zero this.symm
  · obtain ⟨hem, hes⟩ := mem_left hel
    obtain ⟨n, hn, hg, hnk⟩ := entry_name he hst.2.2 hem
    have hr1 : w1.heap[r]? = some (.mapIter (some b) since seen c0) := by rcases hal with rfl | rfl <;> exact hr
    have hb1 : w1.heap[b]? = some (.map arr clock) := by rcases hal with rfl | rfl <;> exact hb
    have hset := heap_set (o' := .mapIter (some b) since (seen.push e.born) clock) hr1
    have hb' : (setBlock w1 r (.mapIter (some b) since (seen.push e.born) clock)).heap[b]? = some (.map arr clock) := (hset.2 b (fun e1 => hne e1.symm)).trans hb1
    have hnames : ∀ x ∈ (leftOf arr (seen.push e.born)).toList, ∃ k, x.key = str k := fun x hx => by
      obtain ⟨hxm, _⟩ := mem_left hx
      obtain ⟨k, hk, _⟩ := entry_name he hst.2.2 hxm
      exact ⟨k, hk⟩
    obtain ⟨rest', hrest⟩ : ∃ rest' : List Nm, (leftOf arr (seen.push e.born)).toList.map (·.key) = rest'.map str := by
      generalize (leftOf arr (seen.push e.born)).toList = L at hnames
      induction L with
      | nil => exact ⟨[], rfl⟩
      | cons x l ih =>
        obtain ⟨k, hk⟩ := hnames x (by simp)
        obtain ⟨r', hr'⟩ := ih (fun y hy => hnames y (by simp [hy]))
        exact ⟨k :: r', by simp [hk, hr']⟩
    have hlen : rest'.length < rest.length := by
      have h1 := congrArg List.length hrest
      have h2 := congrArg List.length hl
      have h3 := left_shrinks arr seen e hel
      simp only [List.length_map, Array.length_toList] at h1 h2
      omega
    refine .inr ⟨n, e.val, rest', _, ?_, hnk, hg, fun x hx hxn => ?_, hlen, by rw [← hn]; exact hrun, ⟨arr, clock, since, seen.push e.born, clock, hb', he, hst, hset.1, hold, hsk, hsk, hrest⟩, ?_, by rw [← hn]; exact run_entry_at _ r b since seen arr clock e hset.1 hb' hem hst.2.1⟩
    · have : e.key ∈ rest.map str := by rw [← hl]; exact List.mem_map_of_mem hel
      rw [hn] at this
      obtain ⟨y, hy, hye⟩ := List.mem_map.1 this
      rw [← str_inj hye]; exact hy
    · have : str x ∈ (leftOf arr seen).toList.map (·.key) := by rw [hl]; exact List.mem_map_of_mem hx
      obtain ⟨y, hy, hye⟩ := List.mem_map.1 this
      obtain ⟨hym, hys⟩ := mem_left hy
      have hyb : y.born ≠ e.born := fun hbe => by
        have : y = e := born_inj hst.2.1 hym hem hbe
        rw [this, hn] at hye
        exact hxn (str_inj hye).symm
      have hy' : y ∈ (leftOf arr (seen.push e.born)).toList := by
        simp only [leftOf, Array.toList_filter, List.mem_filter, contains_push]
        refine ⟨hym, ?_⟩
        rw [hys]
        simp [hyb]
      have : y.key ∈ rest'.map str := by rw [← hrest]; exact List.mem_map_of_mem hy'
      rw [hye] at this
      obtain ⟨z, hz, hze⟩ := List.mem_map.1 this
      rw [← str_inj hze]; exact hz
    · rcases hal with rfl | rfl
      · exact ⟨rfl, rfl, rfl, by simp [setBlock], fun i _ hi => hset.2 i (fun e1 => hi (by simp [e1]))⟩
      · exact ⟨rfl, rfl, rfl, by simp [setBlock], fun i _ hi => hset.2 i (fun e1 => hi (by simp [e1]))⟩
end
end Go.Mq.Plan
