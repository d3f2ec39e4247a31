/- Some texts in one. -/
import Derived.Test.YtgnfhognbpifiaaGreatDoorRegs
import Derived.Test.YtgnfhognbpifiaaGreatDoorTreePure
import Derived.Test.YtgnfhognbpifiaaGreatDoorTreeZ
import Derived.Test.YtgnfhognbpifiaaGreatDoorTreeL
import Derived.MapKept
/- An append of whatever slice, nil too. No program is named here. -/
namespace Go.Mq
open Go Go.RowKit
section
variable {P : Program}
theorem append_none (w : World) (base : Nat) (t ty e : TypeId) (i : TypeInfo) (size : Nat) (ht : P.underlying t = some (.slice e)) (hi : P.info? e = some i) (hsize : i.size = size)
    (v : Value) (n : Nat) (xs : List Value) (hown : w.ownsRow base e size v n xs) (c : Nat) : (Builtin.append_ #[t, t] ty #[v, .slice none 0 c]).run P w = .ok v w := by
  subst hsize
  rcases hown.2 with ⟨rfl, rfl⟩ | ⟨g, cap, cur, rfl, hbg, hg, hnc, hcm, hcs, htake⟩
  · simp [Builtin.append_, run_underlying ht, sizeOf, typeInfo, hi, Builtin.lenOf, Builtin.firstCells]
  · simp [Builtin.append_, run_underlying ht, sizeOf, typeInfo, hi, Builtin.lenOf, Builtin.firstCells, loadCells, hnc, storeCells]
theorem append_whole (w : World) (base : Nat) (t ty e : TypeId) (i : TypeInfo) (z : Value) (size bytes : Nat) (ht : P.underlying t = some (.slice e)) (hi : P.info? e = some i) (hz : i.zero = some z)
    (hsize : i.size = size) (hby : i.bytes = bytes) (hzs : z.cells.size = size) (hsz : 0 < size)
    (v : Value) (n : Nat) (xs : List Value) (hown : w.ownsRow base e size v n xs)
    (na : Option Addr) (m c : Nat) (news : List Value) (hl : news.length = m * size) (hat : At w na news) (h1 : ∀ u ∈ news, u.oneCell' = true)
    (h63 : n + m ≤ maxLen) (hbytes : (n + m) * bytes ≤ 140737488355328) (hbase : base ≤ w.heap.size) :
    ∃ v' w', (Builtin.append_ #[t, t] ty #[v, .slice na m c]).run P w = .ok v' w' ∧ w'.ownsRow base e size v' (n + m) (xs ++ news) ∧ Chg (blk v) w w' ∧ Moved w v v' := by
  cases na with
  | some ad =>
    refine append_slice w base t ty e i z size bytes ht hi hz hsize hby hzs hsz v n xs hown ad m c news hl (fun j u hj => ?_) h1 h63 hbytes hbase
    obtain ⟨b, off, he, hc⟩ := hat (by have := (List.getElem?_eq_some_iff.1 hj).1; omega)
    cases he
    have h := hc j u hj
    by_cases hj0 : j = 0
    · subst hj0; simpa [Addr.add] using h
    · simpa [Addr.add, hj0] using h
  | none =>
    have hn : news = [] := by
      rcases Nat.eq_zero_or_pos news.length with h | h
      · exact List.eq_nil_of_length_eq_zero h
      · obtain ⟨b, off, he, _⟩ := hat h; cases he
    subst hn
    have hm : m = 0 := by
      rcases Nat.mul_eq_zero.1 (show m * size = 0 by simpa using hl.symm) with h | h
      · exact h
      · omega
    subst hm
    exact ⟨v, w, append_none w base t ty e i size ht hi hsize v n xs hown c, by simpa using hown, Chg.refl _ _, Moved.refl _ _⟩
variable {ops : Array Oper} {o : Oper} {rest : List Oper} {a : Act} {w : World} {Q : Exit → Act → World → Prop} {E : Oper → Bool} {S : World → Prop} {R : Act → World → Prop}
theorem wpL_append_any (hgd : o.guard = none) (s x : Operand) (t : TypeId)
    (ho : o.op = .call { callee := .builtin .append, args := #[s, x], argTypes := #[t, t] })
    (e : TypeId) (z : Value) (size bytes : Nat) (hi : (P.info? e).map (fun i => (i.zero, i.size, i.bytes)) = some (some z, size, bytes)) (ht : P.underlying t = some (.slice e))
    (hzs : z.cells.size = size) (hsz : 0 < size)
    (v : Value) (n : Nat) (xs : List Value) (hs : a.eval s = v) (hown : w.ownsRow 0 e size v n xs)
    (na : Option Addr) (m c : Nat) (news : List Value) (hx : a.eval x = .slice na m c) (hl : news.length = m * size) (hat : At w na news) (h1 : ∀ u ∈ news, u.oneCell' = true)
    (hbytes : (n + m) * bytes ≤ 140737488355328) (h63 : n + m ≤ maxLen)
    (h : ∀ v' w', w'.ownsRow 0 e size v' (n + m) (xs ++ news) → Chg (blk v) w w' → Moved w v v' → wpList P ops Q rest (a.put o.dst v') w') : wpList P ops Q (o :: rest) a w := by
  obtain ⟨i, hi, hz, hsize, hby⟩ := info_parts hi
  obtain ⟨v', w', hr, h2, h3, h4⟩ := append_whole (P := P) w 0 t o.type e i z size bytes ht hi hz hsize hby hzs hsz v n xs hown na m c news hl hat h1 h63 hbytes (Nat.zero_le _)
  refine wpList_plain hgd fun K hK => ?_
  unfold Oper.wp execOp
  simp only [ho, resolve, invoke, builtin, Sem.run_bind, Sem.run_pure, Result.andThen_ok, List.map_toArray, List.map_cons, List.map_nil, hs, hx, hr]
  exact hK _ _ (h v' w' h2 h3 h4)
theorem wpX_append_any (s x : Operand) (t : TypeId)
    (ho : o.op = .call { callee := .builtin .append, args := #[s, x], argTypes := #[t, t] }) (hE : E o = true) (hw : Region.wanted o (yielded ops a.tmps) = true)
    (e : TypeId) (z : Value) (size bytes : Nat) (hi : (P.info? e).map (fun i => (i.zero, i.size, i.bytes)) = some (some z, size, bytes)) (ht : P.underlying t = some (.slice e))
    (hzs : z.cells.size = size) (hsz : 0 < size)
    (v : Value) (n : Nat) (xs : List Value) (hs : a.eval s = v) (hown : w.ownsRow 0 e size v n xs)
    (na : Option Addr) (m c : Nat) (news : List Value) (hx : a.eval x = .slice na m c) (hl : news.length = m * size) (hat : At w na news) (h1 : ∀ u ∈ news, u.oneCell' = true)
    (hbytes : (n + m) * bytes ≤ 140737488355328) (h63 : n + m ≤ maxLen)
    (h : ∀ v' w', w'.ownsRow 0 e size v' (n + m) (xs ++ news) → Chg (blk v) w w' → Moved w v v' → S w' ∧ wpX P ops E S R rest (a.put o.dst v') w') : wpX P ops E S R (o :: rest) a w := by
  refine .inr ⟨hE, hw, ?_⟩
  obtain ⟨i, hi, hz, hsize, hby⟩ := info_parts hi
  obtain ⟨v', w', hr, h2, h3, h4⟩ := append_whole (P := P) w 0 t o.type e i z size bytes ht hi hz hsize hby hzs hsz v n xs hown na m c news hl hat h1 h63 hbytes (Nat.zero_le _)
  unfold Oper.wp execOp
  simp only [ho, resolve, invoke, builtin, Sem.run_bind, Sem.run_pure, Result.andThen_ok, List.map_toArray, List.map_cons, List.map_nil, hs, hx, hr]
  exact h v' w' h2 h3 h4
end
end Go.Mq
/- Modules in order, in plain Lean. No program is named here. -/
namespace Go.Mq.Plan
open Go Go.RowKit Go.Mq Go.Mq.Tree
abbrev Nm := List UInt8
/-- One may come: it has not come, and all that it imports, and that are there, have. -/
def may (there : Nm → Bool) (imp : Nm → List Nm) (out : List Nm) (n : Nm) : Bool := !decide (n ∈ out) && !((imp n).any fun i => there i && !decide (i ∈ out))
/-- f more come. -/
def orderL (names : List Nm) (there : Nm → Bool) (imp : Nm → List Nm) : Nat → List Nm → Option (List Nm)
  | 0, out => some out
  | f + 1, out => match names.find? (may there imp out) with
    | none => none
    | some n => orderL names there imp f (out ++ [n])
theorem may_true {there : Nm → Bool} {imp : Nm → List Nm} {out : List Nm} {n : Nm} (h : may there imp out n = true) : n ∉ out ∧ ∀ i ∈ imp n, there i = true → i ∈ out := by
  simp only [may, Bool.and_eq_true, Bool.not_eq_true', decide_eq_false_iff_not, List.any_eq_false] at h
  refine ⟨h.1, fun i hi ht => ?_⟩
  have := h.2 i hi
  exact Classical.byContradiction fun hc => this (by simp [ht, hc])
theorem may_false {there : Nm → Bool} {imp : Nm → List Nm} {out : List Nm} {n : Nm} (h : may there imp out n = false) (hn : n ∉ out) : ∃ i ∈ imp n, there i = true ∧ i ∉ out := by
  simp only [may, hn, decide_false, Bool.not_false, Bool.true_and, Bool.not_eq_false', List.any_eq_true, Bool.and_eq_true, Bool.not_eq_true', decide_eq_false_iff_not] at h
  exact h
/-- All come: each once, behind all that it imports. -/
theorem order_some {names : List Nm} {there : Nm → Bool} {imp : Nm → List Nm} : ∀ {f : Nat} {out o : List Nm}, orderL names there imp f out = some o → o.length = out.length + f ∧ o.take out.length = out ∧
    ∀ i n, out.length ≤ i → o[i]? = some n → n ∈ names ∧ n ∉ o.take i ∧ ∀ j ∈ imp n, there j = true → j ∈ o.take i
  | 0, out, o, h => by
    cases h
    exact ⟨rfl, by simp, fun i n hi hn => by have := (List.getElem?_eq_some_iff.1 hn).1; omega⟩
  | f + 1, out, o, h => by
    rw [orderL] at h
    split at h
    · cases h
    · next x hx =>
      obtain ⟨h1, h2, h3⟩ := order_some h
      have hl : (out ++ [x]).length = out.length + 1 := by simp
      rw [hl] at h1 h2 h3
      have ht : o.take out.length = out := by
        have := congrArg (List.take out.length) h2
        rw [List.take_take, Nat.min_eq_left (by omega)] at this
        rw [this]; simp
      have hx0 : o[out.length]? = some x := by
        have := congrArg (fun l => l[out.length]?) h2
        simp only [List.getElem?_take_of_lt (Nat.lt_succ_self _)] at this
        rw [this]; simp
      refine ⟨by omega, ht, fun i n hi hn => ?_⟩
      by_cases he : i = out.length
      · subst he
        rw [hx0] at hn
        cases hn
        have hm := List.find?_some hx
        obtain ⟨m1, m2⟩ := may_true hm
        rw [ht]
        exact ⟨List.mem_of_find?_eq_some hx, m1, m2⟩
      · exact h3 i n (by omega) hn
/-- There is a round: some are left, of which each imports one that is left. -/
theorem order_none {names : List Nm} {there : Nm → Bool} {imp : Nm → List Nm} : ∀ {f : Nat} {out : List Nm}, orderL names there imp f out = none → ∃ out' : List Nm, out'.length < out.length + f ∧ ∀ n ∈ names, n ∉ out' → ∃ i ∈ imp n, there i = true ∧ i ∉ out'
  | 0, out, h => by cases h
  | f + 1, out, h => by
    rw [orderL] at h
    split at h
    · next hx =>
      exact ⟨out, by omega, fun n hn ho => may_false (by simpa using List.find?_eq_none.1 hx n hn) ho⟩
    · next x hx =>
      obtain ⟨out', h1, h2⟩ := order_none h
      exact ⟨out', by simp at h1; omega, h2⟩
theorem nodup_le {α : Type} [DecidableEq α] : ∀ {l l' : List α}, l.Nodup → (∀ x ∈ l, x ∈ l') → l.length ≤ l'.length
  | [], _, _, _ => by simp
  | x :: r, l', h, hs => by
    rw [List.nodup_cons] at h
    have hx := hs x (by simp)
    have h2 := nodup_le (l := r) (l' := l'.erase x) h.2 fun y hy => (List.mem_erase_of_ne (show y ≠ x from fun e => h.1 (by rw [← e]; exact hy))).2 (hs y (by simp [hy]))
    rw [List.length_erase_of_mem hx] at h2
    have := List.length_pos_of_mem hx
    simp
    omega
/-- One is left. -/
theorem left_one {names out : List Nm} (hn : names.Nodup) (hl : out.length < names.length) : ∃ n ∈ names, n ∉ out := by
  apply Classical.byContradiction
  intro h
  have : ∀ x ∈ names, x ∈ out := fun x hx => Classical.byContradiction fun hc => h ⟨x, hx, hc⟩
  have := nodup_le hn this
  omega
end Go.Mq.Plan
/- Maps by names, in memory, with their stamps. -/
namespace Go.Mq.Plan
open Go Go.RowKit Go.Mq Go.Mq.Tree Go.MapKept
theorem str_inj {a b : List UInt8} (h : str a = str b) : a = b := by
  have h1 : bs a = bs b := by simpa [str] using h
  have := congrArg (fun x => x.data.toList) h1
  simpa [bs] using this
/-- A map by names. -/
def MapIs (w : World) (b : Nat) (es : List (List UInt8 × Value)) : Prop := ∃ arr clock, w.heap[b]? = some (.map arr clock) ∧ arr.toList.map (fun e => (e.key, e.val)) = (es.map fun p => (str p.1, p.2)) ∧ Stamped arr clock
def getM : List (List UInt8 × Value) → List UInt8 → Option Value
  | [], _ => none
  | (k, u) :: r, n => if k = n then some u else getM r n
def putM : List (List UInt8 × Value) → List UInt8 → Value → List (List UInt8 × Value)
  | [], n, v => [(n, v)]
  | (k, u) :: r, n, v => if k = n then (k, v) :: r else (k, u) :: putM r n v
def idxM : List (List UInt8 × Value) → List UInt8 → Nat → Option (Nat × Value)
  | [], _, _ => none
  | (k, u) :: r, n, i => if k = n then some (i, u) else idxM r n (i + 1)
theorem getM_put : ∀ (es : List (List UInt8 × Value)) (n : List UInt8) (v : Value) (x : List UInt8), getM (putM es n v) x = if n = x then some v else getM es x
  | [], n, v, x => rfl
  | (k, u) :: r, n, v, x => by
    rw [putM]
    by_cases hk : k = n
    · subst hk
      rw [if_pos rfl, getM, getM]
      split <;> rfl
    · rw [if_neg hk, getM, getM, getM_put r]
      by_cases hx : k = x
      · subst hx; rw [if_pos rfl, if_pos rfl, if_neg (Ne.symm hk)]
      · rw [if_neg hx, if_neg hx]
theorem idxM_get : ∀ (es : List (List UInt8 × Value)) (n : List UInt8) (i : Nat), (idxM es n i).map (·.2) = getM es n
  | [], _, _ => rfl
  | (k, u) :: r, n, i => by
    rw [idxM, getM]
    split
    · rfl
    · exact idxM_get r n (i + 1)
theorem findNow_is {n : List UInt8} : ∀ {l : List MapEntry} {es : List (List UInt8 × Value)} {i : Nat}, l.map (fun e => (e.key, e.val)) = es.map (fun p => (str p.1, p.2)) → Instr.findNow .string (str n) l i = some (idxM es n i)
  | [], [], i, _ => rfl
  | [], _ :: _, _, h => by simp at h
  | _ :: _, [], _, h => by simp at h
  | e :: l, (k, u) :: es, i, h => by
    simp only [List.map_cons, List.cons.injEq, Prod.mk.injEq] at h
    obtain ⟨⟨h1, h2⟩, h3⟩ := h
    have hs : Instr.sameNow .string (str n) e.key = some (n == k) := by
      rw [h1]
      show some (bs n == bs k) = _
      rw [bs_beq]
    rw [Instr.findNow, hs, idxM]
    by_cases hk : k = n
    · subst hk; simp [h2]
    · have : (n == k) = false := by simpa using fun h => hk h.symm
      rw [this, if_neg hk]; exact findNow_is h3
theorem idxM_none : ∀ {es : List (List UInt8 × Value)} {n : List UInt8} {i : Nat} {v : Value}, idxM es n i = none → putM es n v = es ++ [(n, v)]
  | [], _, _, _, _ => rfl
  | (k, u) :: r, n, i, v, h => by
    rw [idxM] at h
    split at h
    · cases h
    · next hk => rw [putM, if_neg hk, idxM_none h]; rfl
theorem idxM_some : ∀ {es : List (List UInt8 × Value)} {n : List UInt8} {i j : Nat} {u v : Value}, idxM es n i = some (j, u) → i ≤ j ∧ es[j - i]? = some (n, u) ∧ putM es n v = es.modify (j - i) fun p => (p.1, v)
  | [], _, _, _, _, _, h => by cases h
  | (k, u) :: r, n, i, j, u', v, h => by
    rw [idxM] at h
    split at h
    · next hk => cases h; subst hk; simp [putM]
    · next hk =>
      obtain ⟨h1, h2, h3⟩ := idxM_some (v := v) h
      obtain ⟨d, rfl⟩ : ∃ d, j = i + 1 + d := ⟨j - (i + 1), by omega⟩
      rw [show i + 1 + d - (i + 1) = d by omega] at h2 h3
      rw [show i + 1 + d - i = d + 1 by omega, putM, if_neg hk, h3]
      exact ⟨by omega, by simpa using h2, by simp⟩
theorem idxM_none_key {n : List UInt8} : ∀ {l : List MapEntry} {es : List (List UInt8 × Value)} {i : Nat}, l.map (fun e => (e.key, e.val)) = es.map (fun p => (str p.1, p.2)) → idxM es n i = none → ∀ x ∈ l, x.key ≠ str n
  | [], _, _, _, _ => by simp
  | _ :: _, [], _, h, _ => by simp at h
  | e :: l, (k, u) :: es, i, h, hi => by
    simp only [List.map_cons, List.cons.injEq, Prod.mk.injEq] at h
    obtain ⟨⟨h1, _⟩, h3⟩ := h
    rw [idxM] at hi
    split at hi
    · cases hi
    · next hk =>
      intro x hx
      rcases List.mem_cons.1 hx with rfl | hx
      · rw [h1]
        intro he
        exact hk (str_inj he)
      · exact idxM_none_key h3 hi x hx
theorem MapIs.kept {S : List Nat} {w w' : World} {b : Nat} {es : List (List UInt8 × Value)} (h : MapIs w b es) (hc : Chg S w w') (hn : b ∉ S) : MapIs w' b es := by
  obtain ⟨arr, clock, hb, he, hst⟩ := h
  exact ⟨arr, clock, by rw [hc.block b (Array.getElem?_eq_some_iff.1 hb).1 hn]; exact hb, he, hst⟩
theorem MapIs.lt {w : World} {b : Nat} {es : List (List UInt8 × Value)} (h : MapIs w b es) : b < w.heap.size := by
  obtain ⟨arr, clock, hb, he, hst⟩ := h
  exact (Array.getElem?_eq_some_iff.1 hb).1
theorem MapIs.made (w : World) : MapIs (w.alloc (.map #[] 0)) w.heap.size [] := ⟨#[], 0, heap_alloc_new w _, rfl, stamped_empty 0⟩
section
variable {P : Program} {T K E : TypeId} {w : World} {b : Nat} {es : List (List UInt8 × Value)} {z : Value}
theorem run_getM (hT : P.underlying T = some (.map K E)) (hK : P.underlying K = some .string) (hz : (zeroValue E).run P w = .ok z w) (h : MapIs w b es) (n : List UInt8) :
    (Instr.lookup T (.map (some b)) (str n) false).run P w = .ok ((getM es n).getD z) w := by
  obtain ⟨arr, clock, hb, he, hst⟩ := h
  have hf := findNow_is (n := n) (i := 0) he
  rw [← idxM_get es n 0]
  cases hi : idxM es n 0 with
  | none => rw [hi] at hf; simp [Instr.lookup, run_underlying hT, Go.MapKept.run_getObj_map hb, Go.MapKept.run_checkKey (d := .string) (k := str n) hK trivial, Go.MapKept.run_findKey hK hf, hz, Result.andThen]
  | some p => obtain ⟨i, u⟩ := p; rw [hi] at hf; simp [Instr.lookup, run_underlying hT, Go.MapKept.run_getObj_map hb, Go.MapKept.run_checkKey (d := .string) (k := str n) hK trivial, Go.MapKept.run_findKey hK hf, Result.andThen]
theorem run_getMok (hT : P.underlying T = some (.map K E)) (hK : P.underlying K = some .string) (hz : (zeroValue E).run P w = .ok z w) (h : MapIs w b es) (n : List UInt8) :
    (Instr.lookup T (.map (some b)) (str n) true).run P w = .ok (.tuple #[(getM es n).getD z, .bool (getM es n).isSome]) w := by
  obtain ⟨arr, clock, hb, he, hst⟩ := h
  have hf := findNow_is (n := n) (i := 0) he
  rw [← idxM_get es n 0]
  cases hi : idxM es n 0 with
  | none => rw [hi] at hf; simp [Instr.lookup, run_underlying hT, Go.MapKept.run_getObj_map hb, Go.MapKept.run_checkKey (d := .string) (k := str n) hK trivial, Go.MapKept.run_findKey hK hf, hz, Result.andThen]
  | some p => obtain ⟨i, u⟩ := p; rw [hi] at hf; simp [Instr.lookup, run_underlying hT, Go.MapKept.run_getObj_map hb, Go.MapKept.run_checkKey (d := .string) (k := str n) hK trivial, Go.MapKept.run_findKey hK hf, Result.andThen]
theorem run_getNok (hT : P.underlying T = some (.map K E)) (hK : P.underlying K = some .string) (hz : (zeroValue E).run P w = .ok z w) (n : List UInt8) (ok : Bool) :
    (Instr.lookup T (.map none) (str n) ok).run P w = .ok (if ok then .tuple #[z, .bool false] else z) w := by
  have hf : Instr.findNow .string (str n) [] 0 = some none := rfl
  cases ok <;> simp [Instr.lookup, run_underlying hT, Go.MapKept.run_checkKey (d := .string) (k := str n) hK trivial, Go.MapKept.run_findKey hK hf, hz, Result.andThen]
theorem run_putM (hT : P.underlying T = some (.map K E)) (hK : P.underlying K = some .string) (h : MapIs w b es) (n : List UInt8) (v : Value) :
    ∃ w', (Instr.mapUpdate T (.map (some b)) (str n) v).run P w = .ok () w' ∧ MapIs w' b (putM es n v) ∧ Chg [b] w w' := by
  obtain ⟨arr, clock, hb, he, hst⟩ := h
  have hlt := (Array.getElem?_eq_some_iff.1 hb).1
  have hf := findNow_is (n := n) (i := 0) he
  have hck : ∀ o : Obj, Chg [b] w { w with heap := w.heap.setIfInBounds b o } := fun o => ⟨rfl, rfl, rfl, by simp, fun k _ hk => by
    show (w.heap.setIfInBounds b _)[k]? = _
    rw [Array.getElem?_setIfInBounds_ne (fun e => hk (by simp [e]))]⟩
  cases hi : idxM es n 0 with
  | none =>
    rw [hi] at hf
    refine ⟨{ w with heap := w.heap.setIfInBounds b (.map (arr.push { key := str n, val := v, born := clock }) (clock + 1)) }, by simp [Instr.mapUpdate, run_underlying hT, Go.MapKept.run_getObj_map hb, Go.MapKept.run_checkKey (d := .string) (k := str n) hK trivial, Go.MapKept.run_findKey hK hf, Go.MapKept.run_setObj_map _ hb, Result.andThen], ⟨arr.push { key := str n, val := v, born := clock }, clock + 1, by simp [hlt], ?_, stamped_push hst (idxM_none_key he hi)⟩, hck _⟩
    rw [idxM_none hi]
    simp [he]
  | some p =>
    obtain ⟨j, u⟩ := p
    rw [hi] at hf
    obtain ⟨_, h2, h3⟩ := idxM_some (v := v) hi
    rw [Nat.sub_zero] at h2 h3
    have hj : ∃ e, arr[j]? = some e ∧ e.key = str n := by
      have := congrArg (fun l => l[j]?) he
      simp only [List.getElem?_map, h2, Option.map_some] at this
      cases ha : arr.toList[j]? with
      | none => rw [ha] at this; simp at this
      | some e => rw [ha] at this; simp at this; exact ⟨e, by simpa using ha, this.1⟩
    obtain ⟨e, hj, hk⟩ := hj
    refine ⟨{ w with heap := w.heap.setIfInBounds b (.map (arr.modify j fun e => { e with key := str n, val := v }) clock) }, by simp [Instr.mapUpdate, run_underlying hT, Go.MapKept.run_getObj_map hb, Go.MapKept.run_checkKey (d := .string) (k := str n) hK trivial, Go.MapKept.run_findKey hK hf, hj, hk, Go.MapKept.run_keyThatStays (d := .string) (k := str n) trivial, Go.MapKept.run_setObj_map _ hb, Result.andThen], ⟨arr.modify j fun e => { e with key := str n, val := v }, clock, by simp [hlt], ?_, stamped_modify hst _ _ (fun _ _ => rfl) (fun e' _ he' => by rw [hj] at he'; cases he'; exact hk.symm)⟩, hck _⟩
    rw [h3]
    apply List.ext_getElem?
    intro i
    have hi' := congrArg (fun l => l[i]?) he
    simp only [List.getElem?_map] at hi'
    simp only [List.getElem?_map, Array.toList_modify, List.getElem?_modify]
    by_cases hij : j = i
    · subst hij
      rw [h2]
      have : arr.toList[j]? = some e := by simpa using hj
      rw [this]
      simp
    · simp only [if_neg hij]
      cases ha : arr.toList[i]? <;> cases hb' : es[i]? <;> simp_all
end
/-- A map that tells which names were there. -/
def HadIs (w : World) (b : Nat) (had : List (List UInt8)) : Prop := ∃ es, MapIs w b es ∧ ∀ n, getM es n = if n ∈ had then some (.bool true) else none
theorem HadIs.kept {S : List Nat} {w w' : World} {b : Nat} {had : List (List UInt8)} (h : HadIs w b had) (hc : Chg S w w') (hn : b ∉ S) : HadIs w' b had := by
  obtain ⟨es, h1, h2⟩ := h
  exact ⟨es, h1.kept hc hn, h2⟩
theorem HadIs.made (w : World) : HadIs (w.alloc (.map #[] 0)) w.heap.size [] := ⟨[], MapIs.made w, fun n => by simp [getM]⟩
end Go.Mq.Plan
/- Lists of names; texts that are short. -/
namespace Go.Mq.Plan
open Go Go.RowKit Go.Mq Go.Mq.Tree
theorem names_cell {w : World} {F : Nat → Prop} {a : Option Addr} {l : List (List UInt8)} (h : Row w F a (l.map str)) {k : Nat} {n : List UInt8} (hk : l[k]? = some n) : ∃ b o, a = some ⟨b, o, none⟩ ∧ w.cell? ⟨b, o + k, none⟩ = some (str n) := by
  obtain ⟨b, o, rfl, hc⟩ := h.at_ (by have := (List.getElem?_eq_some_iff.1 hk).1; simp; omega)
  exact ⟨b, o, rfl, hc k (str n) (by rw [List.getElem?_map, hk]; rfl)⟩
theorem split_at {α : Type} {l : List α} {k : Nat} {x : α} (h : l[k]? = some x) : l = l.take k ++ x :: l.drop (k + 1) ∧ (l.take k).length = k := by
  obtain ⟨hk, he⟩ := List.getElem?_eq_some_iff.1 h
  refine ⟨?_, by simp; omega⟩
  rw [← he, ← List.drop_eq_getElem_cons hk, List.take_append_drop]
theorem find_at {α : Type} {f : α → Bool} {l : List α} {k : Nat} {x : α} (hk : l[k]? = some x) (hx : f x = true) (hb : ∀ (i : Nat) (y : α), i < k → l[i]? = some y → f y = false) : l.find? f = some x := by
  obtain ⟨h1, h2⟩ := split_at hk
  rw [h1, List.find?_append]
  have : (l.take k).find? f = none := List.find?_eq_none.2 fun y hy => by
    obtain ⟨i, hi⟩ := List.getElem?_of_mem hy
    have hik : i < k := by have := (List.getElem?_eq_some_iff.1 hi).1; omega
    rw [List.getElem?_take_of_lt hik] at hi
    rw [hb i y hik hi]; simp
  rw [this]
  simp [hx]
theorem find_no {α : Type} {f : α → Bool} {l : List α} (hb : ∀ (i : Nat) (y : α), l[i]? = some y → f y = false) : l.find? f = none := List.find?_eq_none.2 fun y hy => by
  obtain ⟨i, hi⟩ := List.getElem?_of_mem hy
  rw [hb i y hi]; simp
theorem take_snoc {α : Type} {l : List α} {k : Nat} {x : α} (h : l[k]? = some x) : l.take (k + 1) = l.take k ++ [x] := by
  rw [List.take_add_one, h]; rfl
theorem drop_cons {α : Type} {l : List α} {k : Nat} {x : α} (h : l[k]? = some x) : l.drop k = x :: l.drop (k + 1) := by
  obtain ⟨hk, he⟩ := List.getElem?_eq_some_iff.1 h
  rw [← he, ← List.drop_eq_getElem_cons hk]
theorem names_take {w : World} {F : Nat → Prop} {a : Option Addr} {c : Nat} {l : List (List UInt8)} (h : Row w F a (l.map str)) (hc : l.length ≤ c) {k : Nat} (hk : k ≤ l.length) : NamesAt w F (l.take k) (.slice a k c) := by
  refine ⟨a, c, by rw [List.length_take, Nat.min_eq_left hk], by rw [List.length_take]; omega, fun h0 => ?_, fun h0 p hp => h.own (by simp at h0 ⊢; omega) p hp⟩
  obtain ⟨b, o, ha, hcell⟩ := h.at_ (by simp at h0 ⊢; omega)
  refine ⟨b, o, ha, fun i v hv => hcell i v ?_⟩
  rw [List.getElem?_map] at hv ⊢
  rw [List.getElem?_take] at hv
  split at hv
  · exact hv
  · cases hv
end Go.Mq.Plan
namespace Go.Proofs.YtgnfhognbpifiaaGreatDoor
open Go Go.RowKit Go.Mq Go.Mq.Tree Go.Mq.Plan
set_option maxRecDepth 100000
set_option maxHeartbeats 2000000
theorem zero_bool (w : World) : (zeroValue 4).run Tryz.prog w = .ok (.bool false) w := by kernel_rfl
theorem infoStrC : (Tryz.prog.info? 9).map (fun i => (i.zero, i.size, i.bytes)) = some (some (.string ⟨#[]⟩), 1, 16) := by kernel_rfl
theorem strs_one (l : List (List UInt8)) : ∀ u ∈ l.map str, u.oneCell' = true := by
  intro u hu
  obtain ⟨x, _, rfl⟩ := List.mem_map.1 hu
  rfl
theorem indexs_in (l : List (List UInt8)) (hl : l.length ≤ 1000) (n : List UInt8) (F : Nat → Prop) (v : Value) (w : World) (h : NamesAt w F l v) :
    Calls Tryz.prog 26 #[v, str n] w (fun e w' => ∃ r : Int, e = .returned (.int .i64 r) ∧ -1 ≤ r ∧ r ≤ 1000 ∧ decide (0 ≤ r) = decide (n ∈ l) ∧ w' = w) := by
  obtain ⟨a, c, rfl, hac, hrow⟩ := h
  have HROW := Lib.hid hrow
  clear hrow
  go_enter Tryz.func26, Tryz.ntmps26
  go_wp2_with fail
  go_loopw [5, 8] (fun _ i wr => ∃ k : Nat, i = .int .i64 k ∧ k ≤ l.length ∧ w = wr ∧ ∀ (i : Nat) (x : List UInt8), i < k → l[i]? = some x → x ≠ n) (fun _ i _ => l.length - (intOf i).toNat)
  case atStart => exact ⟨0, rfl, Nat.zero_le _, rfl, fun i x hi => by omega⟩
  case round =>
    obtain ⟨k, rfl, hk, rfl, hno⟩ := hrel
    have HNO := Lib.hid hno
    clear hno
    by_cases hlt : k < l.length
    · obtain ⟨x, hs⟩ : ∃ x, l[k]? = some x := ⟨l[k], List.getElem?_eq_getElem hlt⟩
      obtain ⟨b, o, rfl, d0⟩ := names_cell HROW.out hs
      have HS := Lib.hid hs
      clear hs
      cases hq : (n == x) with
      | true =>
        have HIN := Lib.hid (show n ∈ l by
          have : n = x := by simpa using hq
          rw [this]; exact List.mem_of_getElem? HS.out)
        go_wp2_with fail
        go_ret
        exact ⟨k, rfl, by omega, by omega, by simp [HIN.out], rfl⟩
      | false =>
        have HN := Lib.hid (show x ≠ n by intro h; subst h; simp at hq)
        go_wp2_with fail
        refine ⟨⟨k + 1, by go_num, by omega, by first | rfl | trivial, fun i y hi hx => ?_⟩, by simp [intOf]; omega⟩
        by_cases he : i < k
        · exact HNO.out i y he hx
        · have : i = k := by omega
          subst this
          rw [HS.out] at hx
          cases hx
          exact HN.out
    · have hall : n ∉ l := fun hn => by
        obtain ⟨i, hi⟩ := List.getElem?_of_mem hn
        exact HNO.out i n (by have := (List.getElem?_eq_some_iff.1 hi).1; omega) hi rfl
      have HA := Lib.hid hall
      clear hall
      go_wp2_with fail
      go_ret
      exact ⟨-1, rfl, by omega, by omega, by simp [HA.out], rfl⟩
theorem contains_in (l : List (List UInt8)) (hl : l.length ≤ 1000) (n : List UInt8) (F : Nat → Prop) (v : Value) (w : World) (h : NamesAt w F l v) :
    Calls Tryz.prog 12 #[v, str n] w (fun e w' => e = .returned (.bool (decide (n ∈ l))) ∧ w' = w) := by
  have HI := Lib.hid (indexs_in l hl n F v w h)
  clear h
  go_enter Tryz.func12, Tryz.ntmps12
  go_wp2_with fail
  refine HI.out.mono ?_; rintro _ w1 ⟨r, rfl, h0, h1, hq, hw⟩
  have HQ := Lib.hid hq; have HW := Lib.hid hw
  clear hq hw
  go_wp2_with fail
  go_ret
  exact ⟨by rw [← HQ.out]; simp, HW.out⟩
theorem slong_any (n : List UInt8) (hn : n.length ≤ 9223372036854775807) (w : World) : Calls Tryz.prog 18 #[str n] w (fun e w' => e = .returned (.bool (decide (900 < n.length))) ∧ w' = w) := by
  go_enter Tryz.func18, Tryz.ntmps18
  go_wp2_with fail
  go_ret
  exact ⟨by simp; constructor <;> intro h <;> omega, rfl⟩
theorem sindexf_any (l : List (List UInt8)) (hl : l.length ≤ 1000) (hz : ∀ n ∈ l, n.length ≤ 9223372036854775807) (F : Nat → Prop) (v : Value) (w : World) (h : NamesAt w F l v) :
    Calls Tryz.prog 22 #[v, .func (.func 18) #[] #[]] w (fun e w' => ∃ r : Int, e = .returned (.int .i64 r) ∧ -1 ≤ r ∧ r ≤ 1000 ∧ (0 ≤ r ∨ ∀ n ∈ l, n.length ≤ 900) ∧ Chg [] w w') := by
  obtain ⟨a, c, rfl, hac, hrow⟩ := h
  have HROW := Lib.hid hrow; have HZ := Lib.hid hz
  clear hrow hz
  go_enter Tryz.func22, Tryz.ntmps22
  go_wp2_with fail
  go_loopw [5, 8] (fun _ i wr => ∃ k : Nat, i = .int .i64 k ∧ k ≤ l.length ∧ w = wr ∧ ∀ (i : Nat) (x : List UInt8), i < k → l[i]? = some x → x.length ≤ 900) (fun _ i _ => l.length - (intOf i).toNat)
  case atStart => exact ⟨0, rfl, Nat.zero_le _, rfl, fun i x hi => by omega⟩
  case round =>
    obtain ⟨k, rfl, hk, rfl, hno⟩ := hrel
    have HNO := Lib.hid hno
    clear hno
    by_cases hlt : k < l.length
    · obtain ⟨n, hs⟩ : ∃ n, l[k]? = some n := ⟨l[k], List.getElem?_eq_getElem hlt⟩
      obtain ⟨b, o, rfl, d0⟩ := names_cell HROW.out hs
      have HS := Lib.hid hs
      have HI := Lib.hid (slong_any n (HZ.out n (List.mem_of_getElem? hs)) w)
      clear hs
      cases hq : decide (900 < n.length) with
      | true =>
        rw [hq] at HI
        clear hq
        go_wp2_with fail
        refine HI.out.mono ?_; rintro _ _ ⟨rfl, hw⟩; have hw := hw.symm; subst hw
        go_wp2_with fail
        go_ret
        exact ⟨k, rfl, by omega, by omega, .inl (by omega), Chg.refl _ _⟩
      | false =>
        rw [hq] at HI
        have HN := Lib.hid (show n.length ≤ 900 by simpa using hq)
        clear hq
        go_wp2_with fail
        refine HI.out.mono ?_; rintro _ _ ⟨rfl, hw⟩; have hw := hw.symm; subst hw
        go_wp2_with fail
        refine ⟨⟨k + 1, by go_num, by omega, by first | rfl | trivial, fun i x hi hx => ?_⟩, by simp [intOf]; omega⟩
        by_cases he : i < k
        · exact HNO.out i x he hx
        · have : i = k := by omega
          subst this
          rw [HS.out] at hx
          cases hx
          exact HN.out
    · have hall : ∀ n ∈ l, n.length ≤ 900 := fun n hn => by
        obtain ⟨i, hi⟩ := List.getElem?_of_mem hn
        exact HNO.out i n (by have := (List.getElem?_eq_some_iff.1 hi).1; omega) hi
      have HA := Lib.hid hall
      clear hall
      go_wp2_with fail
      go_ret
      exact ⟨-1, rfl, by omega, by omega, .inr HA.out, Chg.refl _ _⟩
theorem scontainsf_any (l : List (List UInt8)) (hl : l.length ≤ 1000) (hz : ∀ n ∈ l, n.length ≤ 9223372036854775807) (F : Nat → Prop) (v : Value) (w : World) (h : NamesAt w F l v) :
    Calls Tryz.prog 9 #[v, .func (.func 18) #[] #[]] w (fun e w' => ∃ q : Bool, e = .returned (.bool q) ∧ (q = true ∨ ∀ n ∈ l, n.length ≤ 900) ∧ Chg [] w w') := by
  have HI := Lib.hid (sindexf_any l hl hz F v w h)
  clear h hz
  go_enter Tryz.func9, Tryz.ntmps9
  go_wp2_with fail
  refine HI.out.mono ?_; rintro _ w1 ⟨r, rfl, h0, h1, hq, hc⟩
  have HQ := Lib.hid hq; have HC := Lib.hid hc
  clear hq hc
  go_wp2_with fail
  go_ret
  refine ⟨decide (0 ≤ r), rfl, ?_, HC.out⟩
  rcases HQ.out with h | h
  · exact .inl (by simpa using h)
  · exact .inr h
theorem short_any (l : List (List UInt8)) (hl : l.length ≤ 9223372036854775807) (hz : ∀ n ∈ l, n.length ≤ 9223372036854775807) (F : Nat → Prop) (a : Option Addr) (c : Nat) (w : World) (h : NamesAt w F l (.slice a l.length c)) :
    Calls Tryz.prog 5 #[.slice a l.length c] w (fun e w' => ∃ q : Bool, e = .returned (.bool q) ∧ (q = true → l.length ≤ 5 ∧ ∀ n ∈ l, n.length ≤ 900) ∧ Chg [] w w') := by
  by_cases h5 : l.length ≤ 5
  · have HC := Lib.hid (scontainsf_any l (by omega) hz F _ w h)
    clear h hz
    go_enter Tryz.func5, Tryz.ntmps5
    go_wp2_with fail
    refine HC.out.mono ?_; rintro _ w1 ⟨q, rfl, hq, hc⟩
    have HQ := Lib.hid hq; have HC1 := Lib.hid hc
    clear hq hc
    cases q with
    | true =>
      go_wp2_with fail
      go_ret
      exact ⟨false, rfl, (fun h => by cases h), HC1.out⟩
    | false =>
      go_wp2_with fail
      go_ret
      exact ⟨true, rfl, fun _ => ⟨h5, by rcases HQ.out with h | h; · cases h
                                         · exact h⟩, HC1.out⟩
  · clear h hz
    go_enter Tryz.func5, Tryz.ntmps5
    go_wp2_with fail
    go_ret
    exact ⟨rfl, Chg.refl _ _⟩
end Go.Proofs.YtgnfhognbpifiaaGreatDoor
