/- Names that are used are short, in plain Lean. -/
import Derived.Test.YtgnfhognbpifiaaGreatDoorUsedPure
import Derived.Test.YtgnfhognbpifiaaGreatDoorChecks
namespace Go.Mq.Used
open Go Go.RowKit Go.Mq Go.Mq.Tree
theorem touch_short {g m n : List UInt8} {l : List (List UInt8)} (hn : n.length ≤ 10) (hl : ∀ x ∈ l, x.length ≤ 10) : ∀ x ∈ touch g m n l, x.length ≤ 10 := by
  rw [touch]
  split
  · intro x hx
    rcases List.mem_append.1 hx with h | h
    · exact hl x h
    · rw [List.mem_singleton.1 h]; exact hn
  · exact hl
theorem useE_short (g : List UInt8) {e : E} : WF e → ∀ l, (∀ x ∈ l, x.length ≤ 10) → ∀ x ∈ useE g e l, x.length ≤ 10 := by
  induction e with
  | num p n => exact fun _ _ h => h
  | var p m n => exact fun h l hl => touch_short h.2.2.2 hl
  | item p m n i ih => exact fun h l hl => ih h.2.2.1 _ (touch_short h.2.1.2.2 hl)
  | un p op x ih => exact fun h l hl => ih h.2.1 l hl
  | bin p op x y ih1 ih2 => exact fun h l hl => ih2 h.2.2.1 _ (ih1 h.2.1.1 l hl)
  | app p m n a ih => exact fun h l hl => ih h.2.2.1 _ (touch_short h.2.1.2.2 hl)
  | nil => exact fun _ _ h => h
  | cons x r ih1 ih2 => exact fun h l hl => ih2 h.2.1 _ (ih1 h.1.1 l hl)
theorem useS_short (g : List UInt8) {s : S} : ∀ {d : Nat}, WFS d s → ∀ l, (∀ x ∈ l, x.length ≤ 10) → ∀ x ∈ useS g s l, x.length ≤ 10 := by
  induction s with
  | nil => exact fun _ _ h => h
  | set p n i v r ih =>
    intro d h l hl
    refine ih h.2.2.2 _ (useE_short g h.2.2.1.1.1 _ ?_)
    cases i with
    | none => exact hl
    | some x => exact useE_short g (h.2.1 x rfl).1.1 l hl
  | ifs p v t e r ih1 ih2 ih3 => exact fun h l hl => ih3 h.2.2 _ (ih2 h.2.1.2.2 _ (ih1 h.2.1.1.2 _ (useE_short g h.1.1.1 l hl)))
  | whil p v t r ih1 ih2 => exact fun h l hl => ih2 h.2.2 _ (ih1 h.2.1.2 _ (useE_short g h.1.1.1 l hl))
  | ret p v r ih => exact fun h l hl => ih h.2 _ (useE_short g h.1.1.1 l hl)
  | wri p v r ih => exact fun h l hl => ih h.2 _ (useE_short g h.1.1.1 l hl)
  | call p v r ih => exact fun h l hl => ih h.2 _ (useE_short g h.1.1.1.1 l hl)
theorem useP_short (g : List UInt8) : ∀ {ps : List Proc}, (∀ x ∈ ps, WFP x) → ∀ l, (∀ x ∈ l, x.length ≤ 10) → ∀ x ∈ useP g ps l, x.length ≤ 10
  | [], _, _, hl => hl
  | y :: r, h, l, hl => by
    show ∀ x ∈ useP g r (useS g y.body l), x.length ≤ 10
    exact useP_short g (fun x hx => h x (by simp [hx])) _ (useS_short g (h y (by simp)).body l hl)
theorem usedL_short (g : List UInt8) {m : Mod} (h : WFM m) : ∀ n ∈ usedL g m, n.length ≤ 10 := by
  intro n hn
  rw [usedL, (List.mergeSort_perm _ _).mem_iff] at hn
  exact useS_short g h.body _ (useP_short g h.procs [] (by simp)) n hn
theorem usedL_len (g : List UInt8) (m : Mod) : (usedL g m).length ≤ (modK m).length := by
  rw [usedL, List.length_mergeSort]
  exact Nat.le_trans (useM_len g m) (cntM_le m)
end Go.Mq.Used
