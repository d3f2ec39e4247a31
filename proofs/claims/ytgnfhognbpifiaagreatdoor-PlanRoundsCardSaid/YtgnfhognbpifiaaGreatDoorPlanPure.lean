/- Modules in order, in plain Lean. No program is named here. -/
import Derived.Test.YtgnfhognbpifiaaGreatDoorTreePure
namespace Go.Mq.Plan
open Go Go.RowKit Go.Mq Go.Mq.Tree
abbrev Nm := List UInt8
/-- One may come: it has not come, and all that it imports, and that are there, have. -/
def may (there : Nm → Bool) (imp : Nm → List Nm) (out : List Nm) (n : Nm) : Bool := !decide (n ∈ out) && !((imp n).any fun i => there i && !decide (i ∈ out))
/-- f more come. -/
def orderL (names : List Nm) (there : Nm → Bool) (imp : Nm → List Nm) : Nat → List Nm → Option (List Nm)
  | 0, out => some out
  | f + 1, out => match names.find? (may there imp out) with
    | none => none
    | some n => orderL names there imp f (out ++ [n])
theorem may_true {there : Nm → Bool} {imp : Nm → List Nm} {out : List Nm} {n : Nm} (h : may there imp out n = true) : n ∉ out ∧ ∀ i ∈ imp n, there i = true → i ∈ out := by
  simp only [may, Bool.and_eq_true, Bool.not_eq_true', decide_eq_false_iff_not, List.any_eq_false] at h
  refine ⟨h.1, fun i hi ht => ?_⟩
  have := h.2 i hi
  exact Classical.byContradiction fun hc => this (by simp [ht, hc])
theorem may_false {there : Nm → Bool} {imp : Nm → List Nm} {out : List Nm} {n : Nm} (h : may there imp out n = false) (hn : n ∉ out) : ∃ i ∈ imp n, there i = true ∧ i ∉ out := by
  simp only [may, hn, decide_false, Bool.not_false, Bool.true_and, Bool.not_eq_false', List.any_eq_true, Bool.and_eq_true, Bool.not_eq_true', decide_eq_false_iff_not] at h
  exact h
/-- All come: each once, behind all that it imports. -/
theorem order_some {names : List Nm} {there : Nm → Bool} {imp : Nm → List Nm} : ∀ {f : Nat} {out o : List Nm}, orderL names there imp f out = some o → o.length = out.length + f ∧ o.take out.length = out ∧
    ∀ i n, out.length ≤ i → o[i]? = some n → n ∈ names ∧ n ∉ o.take i ∧ ∀ j ∈ imp n, there j = true → j ∈ o.take i
  | 0, out, o, h => by
    cases h
    exact ⟨rfl, by simp, fun i n hi hn => by have := (List.getElem?_eq_some_iff.1 hn).1; omega⟩
  | f + 1, out, o, h => by
    rw [orderL] at h
    split at h
    · cases h
    · next x hx =>
      obtain ⟨h1, h2, h3⟩ := order_some h
      have hl : (out ++ [x]).length = out.length + 1 := by simp
      rw [hl] at h1 h2 h3
      have ht : o.take out.length = out := by
        have := congrArg (List.take out.length) h2
        rw [List.take_take, Nat.min_eq_left (by omega)] at this
        rw [this]; simp
      have hx0 : o[out.length]? = some x := by
        have := congrArg (fun l => l[out.length]?) h2
        simp only [List.getElem?_take_of_lt (Nat.lt_succ_self _)] at this
        rw [this]; simp
      refine ⟨by omega, ht, fun i n hi hn => ?_⟩
      by_cases he : i = out.length
      · subst he
        rw [hx0] at hn
        cases hn
        have hm := List.find?_some hx
        obtain ⟨m1, m2⟩ := may_true hm
        rw [ht]
        exact ⟨List.mem_of_find?_eq_some hx, m1, m2⟩
      · exact h3 i n (by omega) hn
/-- There is a round: some are left, of which each imports one that is left. -/
theorem order_none {names : List Nm} {there : Nm → Bool} {imp : Nm → List Nm} : ∀ {f : Nat} {out : List Nm}, orderL names there imp f out = none → ∃ out' : List Nm, out'.length < out.length + f ∧ ∀ n ∈ names, n ∉ out' → ∃ i ∈ imp n, there i = true ∧ i ∉ out'
  | 0, out, h => by cases h
  | f + 1, out, h => by
    rw [orderL] at h
    split at h
    · next hx =>
      exact ⟨out, by omega, fun n hn ho => may_false (by simpa using List.find?_eq_none.1 hx n hn) ho⟩
    · next x hx =>
      obtain ⟨out', h1, h2⟩ := order_none h
      exact ⟨out', by simp at h1; omega, h2⟩
theorem nodup_le {α : Type} [DecidableEq α] : ∀ {l l' : List α}, l.Nodup → (∀ x ∈ l, x ∈ l') → l.length ≤ l'.length
  | [], _, _, _ => by simp
  | x :: r, l', h, hs => by
    rw [List.nodup_cons] at h
    have hx := hs x (by simp)
    have h2 := nodup_le (l := r) (l' := l'.erase x) h.2 fun y hy => (List.mem_erase_of_ne (show y ≠ x from fun e => h.1 (by rw [← e]; exact hy))).2 (hs y (by simp [hy]))
    rw [List.length_erase_of_mem hx] at h2
    have := List.length_pos_of_mem hx
    simp
    omega
/-- One is left. -/
theorem left_one {names out : List Nm} (hn : names.Nodup) (hl : out.length < names.length) : ∃ n ∈ names, n ∉ out := by
  apply Classical.byContradiction
  intro h
  have : ∀ x ∈ names, x ∈ out := fun x hx => Classical.byContradiction fun hc => h ⟨x, hx, hc⟩
  have := nodup_le hn this
  omega
end Go.Mq.Plan
