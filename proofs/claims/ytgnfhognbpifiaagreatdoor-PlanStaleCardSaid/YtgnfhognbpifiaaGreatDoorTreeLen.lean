/- No part of the parser leaves more tokens than there were. -/
import Derived.Test.YtgnfhognbpifiaaGreatDoorTreeW13
namespace Go.Mq.Tree
open Go Go.RowKit Go.Mq
theorem ex0_eats (z : Nat) : Eats (ex0 z) := expr_eats (one_eats z 11) 5
theorem first_mono (z p : Nat) : Mono (first z p) := by
  intro ts a r h
  rw [first] at h
  cases hn : named z (expr z (one z 10) 5) ts with
  | bad e q => rw [hn] at h; cases h
  | ok e r1 =>
    have g1 := named_eats (expr_eats (one_eats z 10) 5) _ _ _ hn
    rcases named_shape hn with ⟨q, m, n, rfl⟩ | ⟨q, m, n, i, rfl⟩ | ⟨q, m, n, l, rfl⟩
    · simp only [hn] at h
      split at h
      · cases h
      · cases hm : must z [58, 61] r1 with
        | bad e q => simp only [hm] at h; cases h
        | ok u r2 =>
          have g2 := must_len hm
          simp only [hm] at h
          cases hx : ex0 z r2 with
          | bad e q => simp only [hx] at h; cases h
          | ok v r3 =>
            have g3 := ex0_eats z _ _ _ hx
            simp only [hx] at h
            cases h
            omega
    · simp only [hn] at h
      split at h
      · cases h
      · cases hm : must z [58, 61] r1 with
        | bad e q => simp only [hm] at h; cases h
        | ok u r2 =>
          have g2 := must_len hm
          simp only [hm] at h
          cases hx : ex0 z r2 with
          | bad e q => simp only [hx] at h; cases h
          | ok v r3 =>
            have g3 := ex0_eats z _ _ _ hx
            simp only [hx] at h
            cases h
            omega
    · simp only [hn] at h
      cases h
      omega
theorem restL_mono {z : Nat} {bd : Ps S} {more : Ps (E × S × S)} (hb : Mono bd) (hm : Mono more) : Mono (restL z bd more) := by
  intro ts a r h
  rw [restL] at h
  cases h1 : ex0 z ts with
  | bad e q => rw [h1] at h; cases h
  | ok v r1 =>
    have g1 := ex0_eats z _ _ _ h1
    simp only [h1] at h
    cases h2 : must z [116, 104, 101, 110] r1 with
    | bad e q => simp only [h2] at h; cases h
    | ok u r2 =>
      have g2 := must_len h2
      simp only [h2] at h
      cases h3 : bd r2 with
      | bad e q => simp only [h3] at h; cases h
      | ok t r3 =>
        have g3 := hb _ _ _ h3
        simp only [h3] at h
        split at h
        · cases h4 : more r3.tail with
          | bad e q => simp only [h4] at h; cases h
          | ok x r4 =>
            have g4 := hm _ _ _ h4
            simp only [h4] at h
            cases h
            simp at g4; omega
        · split at h
          · cases h4 : bd r3.tail with
            | bad e q => simp only [h4] at h; cases h
            | ok x r4 =>
              have g4 := hb _ _ _ h4
              simp only [h4] at h
              cases h
              simp at g4; omega
          · cases h; omega
theorem stmt_mono {z : Nat} {bd : Ps S} {rest : Ps (E × S × S)} (hb : Mono bd) (hr : Mono rest) : Mono (stmt z bd rest) := by
  intro ts a r h
  have ht : ts.tail.length ≤ ts.length := by simp
  rw [stmt] at h
  split at h
  · cases h1 : rest ts.tail with
    | bad e q => simp only [h1] at h; cases h
    | ok x r1 =>
      have g1 := hr _ _ _ h1
      simp only [h1] at h
      cases h2 : must z [101, 110, 100] r1 with
      | bad e q => simp only [h2] at h; cases h
      | ok u r2 =>
        have g2 := must_len h2
        simp only [h2] at h
        cases h; omega
  · split at h
    · cases h1 : ex0 z ts.tail with
      | bad e q => simp only [h1] at h; cases h
      | ok v r1 =>
        have g1 := ex0_eats z _ _ _ h1
        simp only [h1] at h
        cases h2 : must z [100, 111] r1 with
        | bad e q => simp only [h2] at h; cases h
        | ok u r2 =>
          have g2 := must_len h2
          simp only [h2] at h
          cases h3 : bd r2 with
          | bad e q => simp only [h3] at h; cases h
          | ok t r3 =>
            have g3 := hb _ _ _ h3
            simp only [h3] at h
            cases h4 : must z [101, 110, 100] r3 with
            | bad e q => simp only [h4] at h; cases h
            | ok u r4 =>
              have g4 := must_len h4
              simp only [h4] at h
              cases h; omega
    · split at h
      · cases h1 : ex0 z ts.tail with
        | bad e q => simp only [h1] at h; cases h
        | ok v r1 =>
          have g1 := ex0_eats z _ _ _ h1
          simp only [h1] at h
          cases h; omega
      · split at h
        · cases h1 : ex0 z ts.tail with
          | bad e q => simp only [h1] at h; cases h
          | ok v r1 =>
            have g1 := ex0_eats z _ _ _ h1
            simp only [h1] at h
            cases h; omega
        · exact first_mono z _ _ _ _ h
theorem bodyL_mono {z : Nat} {st : Ps S} (hs : Mono st) : ∀ f l, Mono (bodyL z st f l) := by
  intro f
  induction f with
  | zero => intro l ts a r h; cases h
  | succ f ih =>
    intro l ts a r h
    rw [bodyL] at h
    split at h
    · cases h; exact Nat.le_refl _
    · cases h1 : st ts with
      | bad e q => rw [h1] at h; cases h
      | ok s r1 =>
        have g1 := hs _ _ _ h1
        simp only [h1] at h
        cases h2 : must z [59] r1 with
        | bad e q => simp only [h2] at h; cases h
        | ok u r2 =>
          have g2 := must_len h2
          simp only [h2] at h
          have g3 := ih _ _ _ _ h
          omega
theorem bodies_mono (z : Nat) : ∀ d, Mono (bodies z d).1 ∧ Mono (bodies z d).2 := by
  intro d
  induction d with
  | zero => exact ⟨fun ts a r h => (by cases h), fun ts a r h => (by cases h)⟩
  | succ d ih => exact ⟨fun ts a r h => bodyL_mono (stmt_mono ih.1 (restL_mono ih.1 ih.2)) _ _ _ _ _ h, restL_mono ih.1 ih.2⟩
theorem stmt_len {z : Nat} {bd : Ps S} {rest : Ps (E × S × S)} {ts r : List Tok} {s : S} (h : stmt z bd rest ts = .ok s r) : s.len = 1 := by
  rw [stmt] at h
  repeat' (split at h)
  all_goals first | (cases h; rfl) | cases h | exact first_len h | (rename_i h2; split at h2; all_goals first | cases h2 | (cases h; rfl))
end Go.Mq.Tree
