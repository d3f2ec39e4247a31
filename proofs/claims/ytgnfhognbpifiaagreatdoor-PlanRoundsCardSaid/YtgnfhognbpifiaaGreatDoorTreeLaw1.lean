/- The tokens of a text, whatever blanks stand between. Plain Lean. -/
import Derived.Test.YtgnfhognbpifiaaGreatDoorTreePure
namespace Go.Mq.Tree
open Go Go.RowKit Go.Mq

def wordy (c : UInt8) : Bool := letter c || digit c
/-- What kind a token's text is of. -/
def kindT : List UInt8 → Kind
  | [] => .mark
  | c :: _ => if letter c then .word else if digit c then .number else .mark
def IsWord (t : List UInt8) : Prop := ∃ c r, t = c :: r ∧ letter c = true ∧ ∀ x ∈ r, wordy x = true
def IsNum (t : List UInt8) : Prop := ∃ c r, t = c :: r ∧ digit c = true ∧ ∀ x ∈ r, digit x = true
def IsTok (t : List UInt8) : Prop := IsWord t ∨ IsNum t ∨ t ∈ marks
/-- What stands behind a token does not lengthen it. -/
def Ends (t : List UInt8) : List UInt8 → Prop
  | [] => True
  | b :: _ => (kindT t ≠ .mark → wordy b = false) ∧ (b.toNat = 61 → t ≠ [58] ∧ t ≠ [60] ∧ t ≠ [62])
/-- A text's tokens. -/
inductive Toks : List UInt8 → List (List UInt8) → Prop
  | nil : Toks [] []
  | gap {c u K} : gap c = true → Toks u K → Toks (c :: u) K
  | tok {t u K} : IsTok t → Ends t u → Toks u K → Toks (t ++ u) (t :: K)
/-- With other blanks between. -/
inductive Spread : List UInt8 → List UInt8 → Prop
  | nil : Spread [] []
  | byte {c u v} : gap c = false → Spread u v → Spread (c :: u) (c :: v)
  | gap {c g u v} : gap c = true → g ≠ [] → (∀ x ∈ g, gap x = true) → Spread u v → Spread (c :: u) (g ++ v)
theorem Spread.refl : ∀ u, Spread u u
  | [] => .nil
  | c :: u => by
    cases h : Tree.gap c with
    | false => exact .byte h (Spread.refl u)
    | true => exact Spread.gap (g := [c]) h (by simp) (by simpa using h) (Spread.refl u)

theorem gap_val {c : UInt8} (h : gap c = true) : c = 32 ∨ c = 10 := by simpa [gap] using h
theorem letter_val {c : UInt8} (h : letter c = true) : 97 ≤ c.toNat ∧ c.toNat ≤ 122 := by simpa [letter] using h
theorem digit_val {c : UInt8} (h : digit c = true) : 48 ≤ c.toNat ∧ c.toNat ≤ 57 := by simpa [digit] using h
theorem wordy_gap {c : UInt8} (h : wordy c = true) : gap c = false := by
  cases hg : gap c with
  | false => rfl
  | true => rcases gap_val hg with rfl | rfl <;> exact absurd h (by decide)
theorem mark_gap : ∀ t ∈ marks, ∀ x ∈ t, gap x = false ∧ wordy x = false := by decide
theorem tok_gap {t : List UInt8} (h : IsTok t) : ∀ x ∈ t, gap x = false := by
  intro x hx
  rcases h with ⟨c, r, rfl, hc, hr⟩ | ⟨c, r, rfl, hc, hr⟩ | h
  · rcases List.mem_cons.mp hx with rfl | hx
    · exact wordy_gap (by simp [wordy, hc])
    · exact wordy_gap (hr x hx)
  · rcases List.mem_cons.mp hx with rfl | hx
    · exact wordy_gap (by simp [wordy, hc])
    · exact wordy_gap (by simp [wordy, hr x hx])
  · exact (mark_gap t h x hx).1
theorem tok_ne {t : List UInt8} (h : IsTok t) : t ≠ [] := by
  rcases h with ⟨c, r, rfl, _, _⟩ | ⟨c, r, rfl, _, _⟩ | h
  · simp
  · simp
  · revert h; revert t; decide
theorem letter_not_digit {c : UInt8} (h : digit c = true) : letter c = false := by
  cases hl : letter c with
  | false => rfl
  | true => have := letter_val hl; have := digit_val h; omega
theorem kind_word {t : List UInt8} (h : IsWord t) : kindT t = .word := by
  obtain ⟨c, r, rfl, hc, _⟩ := h; simp [kindT, hc]
theorem kind_num {t : List UInt8} (h : IsNum t) : kindT t = .number := by
  obtain ⟨c, r, rfl, hc, _⟩ := h; simp [kindT, hc, letter_not_digit hc]
theorem kind_mark : ∀ t ∈ marks, kindT t = .mark := by decide
theorem howN_all {f : UInt8 → Bool} : ∀ (t u : List UInt8), (∀ x ∈ t, f x = true) → (∀ b, u.head? = some b → f b = false) → howN f (t ++ u) = t.length
  | [], [], _, _ => rfl
  | [], b :: u, _, h => by simp [howN, h b rfl]
  | c :: t, u, h1, h2 => by simp [howN, h1 c (by simp), howN_all t u (fun x hx => h1 x (by simp [hx])) h2]
theorem howN_take {f : UInt8 → Bool} : ∀ (l : List UInt8), (∀ x ∈ l.take (howN f l), f x = true) ∧ howN f l ≤ l.length
  | [] => by simp [howN]
  | c :: t => by
    have h := howN_take (f := f) t
    cases hc : f c with
    | false => simp [howN, hc]
    | true =>
      simp only [howN, hc, if_true, List.take_succ_cons, List.length_cons]
      exact ⟨fun x hx => (List.mem_cons.mp hx).elim (fun e => e ▸ hc) (h.1 x), by omega⟩
theorem next_mark {t u : List UInt8} (h : t ∈ marks) (he : Ends t u) : nextK (t ++ u) = (.mark, t.length) := by
  have hm : ∀ b v, u = b :: v → b = 61 → t ≠ [58] ∧ t ≠ [60] ∧ t ≠ [62] := by
    intro b v hu hb; subst hu; exact he.2 (by rw [hb]; rfl)
  clear he
  simp only [marks, List.mem_cons, List.not_mem_nil, or_false] at h
  rcases h with rfl | rfl | rfl | rfl | rfl | rfl | rfl | rfl | rfl | rfl | rfl | rfl | rfl | rfl | rfl | rfl | rfl | rfl <;>
    (rcases u with - | ⟨b, v⟩
     · rfl
     · by_cases hb : b = 61
       · have := hm b v rfl hb
         subst hb
         first
           | rfl
           | exact absurd rfl this.1
           | exact absurd rfl this.2.1
           | exact absurd rfl this.2.2
       · have hb' : (61 == b) = false := by simpa using fun h : 61 = b => hb h.symm
         simp [nextK, letter, digit, marks, List.find?, List.isPrefixOf, hb'])
theorem next_tok {t u : List UInt8} (h : IsTok t) (he : Ends t u) : nextK (t ++ u) = (kindT t, t.length) := by
  rcases h with hw | hn | hm
  · rw [kind_word hw]
    have hk := kind_word hw
    obtain ⟨c, r, rfl, hc, hr⟩ := hw
    have := howN_all (f := fun c => letter c || digit c) (c :: r) u (by simpa [hc] using fun x hx => by simpa [wordy] using hr x hx) (by
      intro b hb
      cases u with
      | nil => simp at hb
      | cons b' v => simp at hb; subst hb; simpa [wordy] using he.1 (by rw [hk]; simp))
    simp only [List.cons_append] at this ⊢
    rw [nextK, if_pos hc, this]
  · rw [kind_num hn]
    have hk := kind_num hn
    obtain ⟨c, r, rfl, hc, hr⟩ := hn
    have := howN_all (f := digit) (c :: r) u (by simpa [hc] using hr) (by
      intro b hb
      cases u with
      | nil => simp at hb
      | cons b' v =>
        simp at hb; subst hb
        have := he.1 (by rw [hk]; simp)
        cases hd : digit b' with
        | false => rfl
        | true => simp [wordy, hd] at this)
    simp only [List.cons_append] at this ⊢
    rw [nextK, if_neg (by simp [letter_not_digit hc]), if_pos hc, this]
  · rw [kind_mark t hm, next_mark hm he]
/-- What a token at the beginning is: one. -/
theorem next_istok {l : List UInt8} (h : (nextK l).2 ≠ 0) : IsTok (l.take (nextK l).2) ∧ kindT (l.take (nextK l).2) = (nextK l).1 ∧ (nextK l).2 ≤ l.length := by
  cases l with
  | nil => simp [nextK] at h
  | cons c t =>
    rw [nextK] at h ⊢
    by_cases hl : letter c = true
    · rw [if_pos hl] at h ⊢
      have hh := howN_take (f := fun c => letter c || digit c) (c :: t)
      have he : howN (fun c => letter c || digit c) (c :: t) = howN (fun c => letter c || digit c) t + 1 := by simp [howN, hl]
      simp only [he, List.take_succ_cons] at hh ⊢
      have hw : IsWord (c :: t.take (howN (fun c => letter c || digit c) t)) := ⟨c, _, rfl, hl, fun x hx => by simpa [wordy] using hh.1 x (by simp [hx])⟩
      exact ⟨.inl hw, kind_word hw, hh.2⟩
    · rw [if_neg hl] at h ⊢
      by_cases hd : digit c = true
      · rw [if_pos hd] at h ⊢
        have hh := howN_take (f := digit) (c :: t)
        have he : howN digit (c :: t) = howN digit t + 1 := by simp [howN, hd]
        simp only [he, List.take_succ_cons] at hh ⊢
        have hw : IsNum (c :: t.take (howN digit t)) := ⟨c, _, rfl, hd, fun x hx => hh.1 x (by simp [hx])⟩
        exact ⟨.inr (.inl hw), kind_num hw, hh.2⟩
      · rw [if_neg hd] at h ⊢
        cases hf : marks.find? fun m => m.isPrefixOf (c :: t) with
        | none => simp [hf] at h
        | some m =>
          have h1 := List.mem_of_find?_eq_some hf
          have h2 := List.find?_some hf
          obtain ⟨v, hv⟩ := List.isPrefixOf_iff_prefix.mp h2
          simp only [Option.map_some, Option.getD_some]
          rw [← hv]
          simp only [List.take_left, List.length_append]
          exact ⟨.inr (.inr h1), kind_mark m h1, by omega⟩
theorem spread_append : ∀ (t : List UInt8) {u v : List UInt8}, (∀ x ∈ t, gap x = false) → Spread (t ++ u) v → ∃ v', v = t ++ v' ∧ Spread u v'
  | [], _, v, _, h => ⟨v, rfl, h⟩
  | c :: t, u, v, ht, h => by
    cases h with
    | byte _ h =>
      obtain ⟨v', rfl, h'⟩ := spread_append t (fun x hx => ht x (by simp [hx])) h
      exact ⟨v', rfl, h'⟩
    | gap hg _ _ _ => rw [ht c (by simp)] at hg; cases hg
theorem ends_gap {t : List UInt8} {b : UInt8} {v : List UInt8} (h : gap b = true) : Ends t (b :: v) := by
  rcases gap_val h with rfl | rfl
  · exact ⟨fun _ => by decide, fun h => by simp at h⟩
  · exact ⟨fun _ => by decide, fun h => by simp at h⟩
theorem ends_spread {t u v : List UInt8} (he : Ends t u) (h : Spread u v) : Ends t v := by
  cases h with
  | nil => trivial
  | byte _ _ => exact he
  | @gap c g u v hc hg hx _ =>
    cases g with
    | nil => exact absurd rfl hg
    | cons b g => exact ends_gap (hx b (by simp))
theorem toks_gaps {g v : List UInt8} {K : List (List UInt8)} (hg : ∀ x ∈ g, gap x = true) (h : Toks v K) : Toks (g ++ v) K := by
  induction g with
  | nil => exact h
  | cons b g ih => exact .gap (hg b (by simp)) (ih fun x hx => hg x (by simp [hx]))
theorem toks_spread {u : List UInt8} {K : List (List UInt8)} (h : Toks u K) : ∀ v, Spread u v → Toks v K := by
  induction h with
  | nil => intro v hv; cases hv; exact .nil
  | gap hc _ ih =>
    intro v hv
    cases hv with
    | byte hb _ => rw [hc] at hb; cases hb
    | gap _ _ hg hs => exact toks_gaps hg (ih _ hs)
  | tok ht he _ ih =>
    intro v hv
    obtain ⟨v', rfl, h'⟩ := spread_append _ (tok_gap ht) hv
    exact .tok ht (ends_spread he h') (ih _ h')
/-- Tokens of so many texts. -/
def Are (ts : List Tok) (K : List (List UInt8)) : Prop := ts.map (·.text) = K ∧ ∀ t ∈ ts, t.kind = kindT t.text
theorem lexL_toks {u : List UInt8} {K : List (List UInt8)} (h : Toks u K) : ∀ (f i k : Nat), u.length ≤ f → k + K.length ≤ 600 → ∃ ts, lexL f i k u = .ok ts ∧ Are ts K := by
  induction h with
  | nil => intro f i k _ _; exact ⟨[], by cases f <;> rfl, rfl, by simp⟩
  | gap hc _ ih =>
    intro f i k hf hk
    cases f with
    | zero => simp at hf
    | succ f =>
      obtain ⟨ts, h1, h2⟩ := ih f (i + 1) k (by simpa using hf) hk
      exact ⟨ts, by rw [lexL]; simp [hc, h1], h2⟩
  | @tok t u K ht he _ ih =>
    intro f i k hf hk
    have hn := next_tok ht he
    have hne := tok_ne ht
    have hg := tok_gap ht
    cases t with
    | nil => exact absurd rfl hne
    | cons c r =>
      cases f with
      | zero => simp at hf
      | succ f =>
        simp only [List.length_append, List.length_cons] at hf hk
        obtain ⟨ts, h1, h2, h3⟩ := ih f (i + (c :: r).length) (k + 1) (by omega) (by omega)
        have hdrop : (c :: r ++ u).drop (c :: r).length = u := List.drop_left
        have htake : (c :: r ++ u).take (c :: r).length = c :: r := List.take_left
        refine ⟨⟨kindT (c :: r), c :: r, i⟩ :: ts, ?_, by simp [h2], ?_⟩
        · rw [List.cons_append] at hn hdrop htake ⊢
          rw [lexL]
          simp only [hn, hg c (by simp), hdrop, htake, h1]
          rw [if_neg (by simp), if_neg (by simp), if_neg (by omega)]
        · intro x hx
          rcases List.mem_cons.mp hx with rfl | hx
          · rfl
          · exact h3 x hx
/-- How many bytes tokens have. -/
def bytes (ts : List Tok) : Nat := (ts.map fun t => t.text.length).sum
def Good (ts : List Tok) : Prop := ∀ t ∈ ts, IsTok t.text ∧ t.kind = kindT t.text
theorem lexL_good : ∀ (f i k : Nat) (l : List UInt8) (ts : List Tok), lexL f i k l = .ok ts → Good ts ∧ bytes ts ≤ l.length
  | 0, _, _, l, ts, h => by cases h; exact ⟨fun _ h => by simp at h, by simp [bytes]⟩
  | f + 1, i, k, [], ts, h => by cases h; exact ⟨fun _ h => by simp at h, by simp [bytes]⟩
  | f + 1, i, k, c :: t, ts, h => by
    rw [lexL] at h
    split at h
    · have := lexL_good f _ _ _ _ h
      exact ⟨this.1, by simp only [List.length_cons]; omega⟩
    · split at h
      · cases h
      · rename_i hn
        split at h
        · cases h
        · split at h
          · rename_i ts' hts
            cases h
            have h1 := lexL_good f _ _ _ _ hts
            have h2 := next_istok hn
            refine ⟨?_, ?_⟩
            · intro x hx
              rcases List.mem_cons.mp hx with rfl | hx
              · exact ⟨h2.1, h2.2.1.symm⟩
              · exact h1.1 x hx
            · have h3 := h1.2
              have h4 : ((c :: t).take (nextK (c :: t)).2).length = (nextK (c :: t)).2 := by rw [List.length_take]; exact Nat.min_eq_left h2.2.2
              rw [List.length_drop] at h3
              simp only [bytes, List.map_cons, List.sum_cons, h4] at h3 ⊢
              have := h2.2.2
              omega
          · cases h
end Go.Mq.Tree
