/- What PlanStale says, in plain Lean. -/
import Derived.Test.YtgnfhognbpifiaaGreatDoorStaleW2
import Derived.Test.YtgnfhognbpifiaaGreatDoorPlanW4
namespace Go.Mq.Plan
open Go Go.RowKit Go.Mq Go.Mq.Tree Go.Mq.Sym Go.Mq.Used
theorem other_same (mf : Nm → Option Mod) (n i : Nm) : other mf mf n i = false := by simp [other]
theorem stale_same (mf : Nm → Option Mod) (ch : List Nm) (n i : Nm) : staleP mf mf ch n i = false := by simp [staleP, other_same]
theorem anew_same (mf : Nm → Option Mod) (ch : List Nm) (n : Nm) : anew mf mf ch n = decide (n ∈ ch) := by
  rw [anew]
  have : (impOf mf n).any (staleP mf mf ch n) = false := by
    rw [List.any_eq_false]
    intro x _
    rw [stale_same]
    simp
  rw [this, Bool.or_false]
theorem stale_none (mf : Nm → Option Mod) (names : List Nm) : names.filter (anew mf mf []) = [] := by
  rw [List.filter_eq_nil_iff]
  intro x _
  rw [anew_same]
  simp
theorem filter_one {n : Nm} : ∀ {l : List Nm}, l.Nodup → n ∈ l → l.filter (fun x => decide (x = n)) = [n]
  | [], _, h => by cases h
  | x :: r, hd, h => by
    rw [List.nodup_cons] at hd
    by_cases hx : x = n
    · subst hx
      rw [List.filter_cons, if_pos (by simp)]
      have : r.filter (fun y => decide (y = x)) = [] := by
        rw [List.filter_eq_nil_iff]
        intro y hy he
        have := of_decide_eq_true he
        subst this
        exact hd.1 hy
      rw [this]
    · rw [List.filter_cons, if_neg (by simpa using hx)]
      refine filter_one hd.2 ?_
      rcases List.mem_cons.1 h with h | h
      · exact absurd h.symm hx
      · exact h
theorem stale_one (mf : Nm → Option Mod) {names : List Nm} (hd : names.Nodup) {n : Nm} (hn : n ∈ names) : names.filter (anew mf mf [n]) = [n] := by
  refine Eq.trans ?_ (filter_one hd hn)
  refine List.filter_congr fun x _ => ?_
  rw [anew_same]
  simp
theorem stale_all (mfw mf : Nm → Option Mod) (names : List Nm) : names.filter (anew mfw mf names) = names := by
  rw [List.filter_eq_self]
  intro x hx
  simp [anew, hx]
/-- Two that are sorted are the same. -/
theorem named_unique {es : List (List UInt8 × Value)} {a b : List Nm} (h : Named es a) (k : ∃ ss : List Nm, ss.Perm (es.map (·.1)) ∧ b = ss.mergeSort fun x y => decide (x ≤ y)) : a = b := by
  obtain ⟨⟨s, h1, rfl⟩⟩ := h
  obtain ⟨t, h2, rfl⟩ := k
  have htr : ∀ (a b c : Nm), decide (a ≤ b) = true → decide (b ≤ c) = true → decide (a ≤ c) = true := fun a b c x y => by
    simp only [decide_eq_true_eq] at x y ⊢
    exact List.le_trans x y
  have hto : ∀ (a b : Nm), (decide (a ≤ b) || decide (b ≤ a)) = true := fun a b => by
    simp only [Bool.or_eq_true, decide_eq_true_eq]
    exact List.le_total a b
  refine List.Perm.eq_of_pairwise (le := fun x y : Nm => decide (x ≤ y) = true) (fun a b _ _ x y => ?_) (List.pairwise_mergeSort htr hto s) (List.pairwise_mergeSort htr hto t) ?_
  · simp only [decide_eq_true_eq] at x y
    exact List.le_antisymm x y
  · exact ((List.mergeSort_perm _ _).trans (h1.trans h2.symm)).trans (List.mergeSort_perm _ _).symm
theorem all_good (l : List (List UInt8)) (h : ∀ t ∈ l, t.length ≤ 900) : AllGood (modsF l) := by
  have key : ∀ (l : List (List UInt8)) (f : Nm → Option Mod), AllGood f → (∀ t ∈ l, t.length ≤ 900) → AllGood (l.foldl modsStep f) := by
    intro l
    induction l with
    | nil => exact fun f hf _ => hf
    | cons t r ih =>
      intro f hf ht
      refine ih _ (fun n m hm => ?_) (fun x hx => ht x (by simp [hx]))
      cases hp : parse t with
      | bad e q => rw [mstep_bad hp] at hm; exact hf n m hm
      | ok m' =>
        rw [mstep_ok hp] at hm
        simp only at hm
        split at hm
        · cases hm
          have := ht t (by simp)
          exact good_of (by omega) hp
        · exact hf n m hm
  exact key l _ (fun n m hm => by cases hm) h
end Go.Mq.Plan
