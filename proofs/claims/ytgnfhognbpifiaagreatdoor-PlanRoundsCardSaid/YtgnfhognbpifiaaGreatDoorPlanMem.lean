/- Maps by names, in memory, with their stamps. -/
import Derived.Test.YtgnfhognbpifiaaGreatDoorTreeW22
import Derived.Test.YtgnfhognbpifiaaGreatDoorTreeLaw3
import Derived.Test.YtgnfhognbpifiaaGreatDoorAppendAny
import Derived.Test.YtgnfhognbpifiaaGreatDoorPlanPure
import Derived.MapKept
namespace Go.Mq.Plan
open Go Go.RowKit Go.Mq Go.Mq.Tree Go.MapKept
theorem str_inj {a b : List UInt8} (h : str a = str b) : a = b := by
  have h1 : bs a = bs b := by simpa [str] using h
  have := congrArg (fun x => x.data.toList) h1
  simpa [bs] using this
/-- A map by names. -/
def MapIs (w : World) (b : Nat) (es : List (List UInt8 × Value)) : Prop := ∃ arr clock, w.heap[b]? = some (.map arr clock) ∧ arr.toList.map (fun e => (e.key, e.val)) = (es.map fun p => (str p.1, p.2)) ∧ Stamped arr clock
def getM : List (List UInt8 × Value) → List UInt8 → Option Value
  | [], _ => none
  | (k, u) :: r, n => if k = n then some u else getM r n
def putM : List (List UInt8 × Value) → List UInt8 → Value → List (List UInt8 × Value)
  | [], n, v => [(n, v)]
  | (k, u) :: r, n, v => if k = n then (k, v) :: r else (k, u) :: putM r n v
def idxM : List (List UInt8 × Value) → List UInt8 → Nat → Option (Nat × Value)
  | [], _, _ => none
  | (k, u) :: r, n, i => if k = n then some (i, u) else idxM r n (i + 1)
theorem getM_put : ∀ (es : List (List UInt8 × Value)) (n : List UInt8) (v : Value) (x : List UInt8), getM (putM es n v) x = if n = x then some v else getM es x
  | [], n, v, x => rfl
  | (k, u) :: r, n, v, x => by
    rw [putM]
    by_cases hk : k = n
    · subst hk
      rw [if_pos rfl, getM, getM]
      split <;> rfl
    · rw [if_neg hk, getM, getM, getM_put r]
      by_cases hx : k = x
      · subst hx; rw [if_pos rfl, if_pos rfl, if_neg (Ne.symm hk)]
      · rw [if_neg hx, if_neg hx]
theorem idxM_get : ∀ (es : List (List UInt8 × Value)) (n : List UInt8) (i : Nat), (idxM es n i).map (·.2) = getM es n
  | [], _, _ => rfl
  | (k, u) :: r, n, i => by
    rw [idxM, getM]
    split
    · rfl
    · exact idxM_get r n (i + 1)
theorem findNow_is {n : List UInt8} : ∀ {l : List MapEntry} {es : List (List UInt8 × Value)} {i : Nat}, l.map (fun e => (e.key, e.val)) = es.map (fun p => (str p.1, p.2)) → Instr.findNow .string (str n) l i = some (idxM es n i)
  | [], [], i, _ => rfl
  | [], _ :: _, _, h => by simp at h
  | _ :: _, [], _, h => by simp at h
  | e :: l, (k, u) :: es, i, h => by
    simp only [List.map_cons, List.cons.injEq, Prod.mk.injEq] at h
    obtain ⟨⟨h1, h2⟩, h3⟩ := h
    have hs : Instr.sameNow .string (str n) e.key = some (n == k) := by
      rw [h1]
      show some (bs n == bs k) = _
      rw [bs_beq]
    rw [Instr.findNow, hs, idxM]
    by_cases hk : k = n
    · subst hk; simp [h2]
    · have : (n == k) = false := by simpa using fun h => hk h.symm
      rw [this, if_neg hk]; exact findNow_is h3
theorem idxM_none : ∀ {es : List (List UInt8 × Value)} {n : List UInt8} {i : Nat} {v : Value}, idxM es n i = none → putM es n v = es ++ [(n, v)]
  | [], _, _, _, _ => rfl
  | (k, u) :: r, n, i, v, h => by
    rw [idxM] at h
    split at h
    · cases h
    · next hk => rw [putM, if_neg hk, idxM_none h]; rfl
theorem idxM_some : ∀ {es : List (List UInt8 × Value)} {n : List UInt8} {i j : Nat} {u v : Value}, idxM es n i = some (j, u) → i ≤ j ∧ es[j - i]? = some (n, u) ∧ putM es n v = es.modify (j - i) fun p => (p.1, v)
  | [], _, _, _, _, _, h => by cases h
  | (k, u) :: r, n, i, j, u', v, h => by
    rw [idxM] at h
    split at h
    · next hk => cases h; subst hk; simp [putM]
    · next hk =>
      obtain ⟨h1, h2, h3⟩ := idxM_some (v := v) h
      obtain ⟨d, rfl⟩ : ∃ d, j = i + 1 + d := ⟨j - (i + 1), by omega⟩
      rw [show i + 1 + d - (i + 1) = d by omega] at h2 h3
      rw [show i + 1 + d - i = d + 1 by omega, putM, if_neg hk, h3]
      exact ⟨by omega, by simpa using h2, by simp⟩
theorem idxM_none_key {n : List UInt8} : ∀ {l : List MapEntry} {es : List (List UInt8 × Value)} {i : Nat}, l.map (fun e => (e.key, e.val)) = es.map (fun p => (str p.1, p.2)) → idxM es n i = none → ∀ x ∈ l, x.key ≠ str n
  | [], _, _, _, _ => by simp
  | _ :: _, [], _, h, _ => by simp at h
  | e :: l, (k, u) :: es, i, h, hi => by
    simp only [List.map_cons, List.cons.injEq, Prod.mk.injEq] at h
    obtain ⟨⟨h1, _⟩, h3⟩ := h
    rw [idxM] at hi
    split at hi
    · cases hi
    · next hk =>
      intro x hx
      rcases List.mem_cons.1 hx with rfl | hx
      · rw [h1]
        intro he
        exact hk (str_inj he)
      · exact idxM_none_key h3 hi x hx
theorem MapIs.kept {S : List Nat} {w w' : World} {b : Nat} {es : List (List UInt8 × Value)} (h : MapIs w b es) (hc : Chg S w w') (hn : b ∉ S) : MapIs w' b es := by
  obtain ⟨arr, clock, hb, he, hst⟩ := h
  exact ⟨arr, clock, by rw [hc.block b (Array.getElem?_eq_some_iff.1 hb).1 hn]; exact hb, he, hst⟩
theorem MapIs.lt {w : World} {b : Nat} {es : List (List UInt8 × Value)} (h : MapIs w b es) : b < w.heap.size := by
  obtain ⟨arr, clock, hb, he, hst⟩ := h
  exact (Array.getElem?_eq_some_iff.1 hb).1
theorem MapIs.made (w : World) : MapIs (w.alloc (.map #[] 0)) w.heap.size [] := ⟨#[], 0, heap_alloc_new w _, rfl, stamped_empty 0⟩
section
variable {P : Program} {T K E : TypeId} {w : World} {b : Nat} {es : List (List UInt8 × Value)} {z : Value}
theorem run_getM (hT : P.underlying T = some (.map K E)) (hK : P.underlying K = some .string) (hz : (zeroValue E).run P w = .ok z w) (h : MapIs w b es) (n : List UInt8) :
    (Instr.lookup T (.map (some b)) (str n) false).run P w = .ok ((getM es n).getD z) w := by
  obtain ⟨arr, clock, hb, he, hst⟩ := h
  have hf := findNow_is (n := n) (i := 0) he
  rw [← idxM_get es n 0]
  cases hi : idxM es n 0 with
  | none => rw [hi] at hf; simp [Instr.lookup, run_underlying hT, Go.MapKept.run_getObj_map hb, Go.MapKept.run_checkKey (d := .string) (k := str n) hK trivial, Go.MapKept.run_findKey hK hf, hz, Result.andThen]
  | some p => obtain ⟨i, u⟩ := p; rw [hi] at hf; simp [Instr.lookup, run_underlying hT, Go.MapKept.run_getObj_map hb, Go.MapKept.run_checkKey (d := .string) (k := str n) hK trivial, Go.MapKept.run_findKey hK hf, Result.andThen]
theorem run_getMok (hT : P.underlying T = some (.map K E)) (hK : P.underlying K = some .string) (hz : (zeroValue E).run P w = .ok z w) (h : MapIs w b es) (n : List UInt8) :
    (Instr.lookup T (.map (some b)) (str n) true).run P w = .ok (.tuple #[(getM es n).getD z, .bool (getM es n).isSome]) w := by
  obtain ⟨arr, clock, hb, he, hst⟩ := h
  have hf := findNow_is (n := n) (i := 0) he
  rw [← idxM_get es n 0]
  cases hi : idxM es n 0 with
  | none => rw [hi] at hf; simp [Instr.lookup, run_underlying hT, Go.MapKept.run_getObj_map hb, Go.MapKept.run_checkKey (d := .string) (k := str n) hK trivial, Go.MapKept.run_findKey hK hf, hz, Result.andThen]
  | some p => obtain ⟨i, u⟩ := p; rw [hi] at hf; simp [Instr.lookup, run_underlying hT, Go.MapKept.run_getObj_map hb, Go.MapKept.run_checkKey (d := .string) (k := str n) hK trivial, Go.MapKept.run_findKey hK hf, Result.andThen]
theorem run_getNok (hT : P.underlying T = some (.map K E)) (hK : P.underlying K = some .string) (hz : (zeroValue E).run P w = .ok z w) (n : List UInt8) (ok : Bool) :
    (Instr.lookup T (.map none) (str n) ok).run P w = .ok (if ok then .tuple #[z, .bool false] else z) w := by
  have hf : Instr.findNow .string (str n) [] 0 = some none := rfl
  cases ok <;> simp [Instr.lookup, run_underlying hT, Go.MapKept.run_checkKey (d := .string) (k := str n) hK trivial, Go.MapKept.run_findKey hK hf, hz, Result.andThen]
theorem run_putM (hT : P.underlying T = some (.map K E)) (hK : P.underlying K = some .string) (h : MapIs w b es) (n : List UInt8) (v : Value) :
    ∃ w', (Instr.mapUpdate T (.map (some b)) (str n) v).run P w = .ok () w' ∧ MapIs w' b (putM es n v) ∧ Chg [b] w w' := by
  obtain ⟨arr, clock, hb, he, hst⟩ := h
  have hlt := (Array.getElem?_eq_some_iff.1 hb).1
  have hf := findNow_is (n := n) (i := 0) he
  have hck : ∀ o : Obj, Chg [b] w { w with heap := w.heap.setIfInBounds b o } := fun o => ⟨rfl, rfl, rfl, by simp, fun k _ hk => by
    show (w.heap.setIfInBounds b _)[k]? = _
    rw [Array.getElem?_setIfInBounds_ne (fun e => hk (by simp [e]))]⟩
  cases hi : idxM es n 0 with
  | none =>
    rw [hi] at hf
    refine ⟨{ w with heap := w.heap.setIfInBounds b (.map (arr.push { key := str n, val := v, born := clock }) (clock + 1)) }, by simp [Instr.mapUpdate, run_underlying hT, Go.MapKept.run_getObj_map hb, Go.MapKept.run_checkKey (d := .string) (k := str n) hK trivial, Go.MapKept.run_findKey hK hf, Go.MapKept.run_setObj_map _ hb, Result.andThen], ⟨arr.push { key := str n, val := v, born := clock }, clock + 1, by simp [hlt], ?_, stamped_push hst (idxM_none_key he hi)⟩, hck _⟩
    rw [idxM_none hi]
    simp [he]
  | some p =>
    obtain ⟨j, u⟩ := p
    rw [hi] at hf
    obtain ⟨_, h2, h3⟩ := idxM_some (v := v) hi
    rw [Nat.sub_zero] at h2 h3
    have hj : ∃ e, arr[j]? = some e ∧ e.key = str n := by
      have := congrArg (fun l => l[j]?) he
      simp only [List.getElem?_map, h2, Option.map_some] at this
      cases ha : arr.toList[j]? with
      | none => rw [ha] at this; simp at this
      | some e => rw [ha] at this; simp at this; exact ⟨e, by simpa using ha, this.1⟩
    obtain ⟨e, hj, hk⟩ := hj
    refine ⟨{ w with heap := w.heap.setIfInBounds b (.map (arr.modify j fun e => { e with key := str n, val := v }) clock) }, by simp [Instr.mapUpdate, run_underlying hT, Go.MapKept.run_getObj_map hb, Go.MapKept.run_checkKey (d := .string) (k := str n) hK trivial, Go.MapKept.run_findKey hK hf, hj, hk, Go.MapKept.run_keyThatStays (d := .string) (k := str n) trivial, Go.MapKept.run_setObj_map _ hb, Result.andThen], ⟨arr.modify j fun e => { e with key := str n, val := v }, clock, by simp [hlt], ?_, stamped_modify hst _ _ (fun _ _ => rfl) (fun e' _ he' => by rw [hj] at he'; cases he'; exact hk.symm)⟩, hck _⟩
    rw [h3]
    apply List.ext_getElem?
    intro i
    have hi' := congrArg (fun l => l[i]?) he
    simp only [List.getElem?_map] at hi'
    simp only [List.getElem?_map, Array.toList_modify, List.getElem?_modify]
    by_cases hij : j = i
    · subst hij
      rw [h2]
      have : arr.toList[j]? = some e := by simpa using hj
      rw [this]
      simp
    · simp only [if_neg hij]
      cases ha : arr.toList[i]? <;> cases hb' : es[i]? <;> simp_all
end
/-- A map that tells which names were there. -/
def HadIs (w : World) (b : Nat) (had : List (List UInt8)) : Prop := ∃ es, MapIs w b es ∧ ∀ n, getM es n = if n ∈ had then some (.bool true) else none
theorem HadIs.kept {S : List Nat} {w w' : World} {b : Nat} {had : List (List UInt8)} (h : HadIs w b had) (hc : Chg S w w') (hn : b ∉ S) : HadIs w' b had := by
  obtain ⟨es, h1, h2⟩ := h
  exact ⟨es, h1.kept hc hn, h2⟩
theorem HadIs.made (w : World) : HadIs (w.alloc (.map #[] 0)) w.heap.size [] := ⟨[], MapIs.made w, fun n => by simp [getM]⟩
end Go.Mq.Plan
