/- Some texts in one. -/
import Derived.Test.YtgnfhognbpifiaaGreatDoorTreePure
/- The tokens of a text, whatever blanks stand between. Plain Lean. -/
namespace Go.Mq.Tree
open Go Go.RowKit Go.Mq

def wordy (c : UInt8) : Bool := letter c || digit c
/-- What kind a token's text is of. -/
def kindT : List UInt8 → Kind
  | [] => .mark
  | c :: _ => if letter c then .word else if digit c then .number else .mark
def IsWord (t : List UInt8) : Prop := ∃ c r, t = c :: r ∧ letter c = true ∧ ∀ x ∈ r, wordy x = true
def IsNum (t : List UInt8) : Prop := ∃ c r, t = c :: r ∧ digit c = true ∧ ∀ x ∈ r, digit x = true
def IsTok (t : List UInt8) : Prop := IsWord t ∨ IsNum t ∨ t ∈ marks
/-- What stands behind a token does not lengthen it. -/
def Ends (t : List UInt8) : List UInt8 → Prop
  | [] => True
  | b :: _ => (kindT t ≠ .mark → wordy b = false) ∧ (b.toNat = 61 → t ≠ [58] ∧ t ≠ [60] ∧ t ≠ [62])
/-- A text's tokens. -/
inductive Toks : List UInt8 → List (List UInt8) → Prop
  | nil : Toks [] []
  | gap {c u K} : gap c = true → Toks u K → Toks (c :: u) K
  | tok {t u K} : IsTok t → Ends t u → Toks u K → Toks (t ++ u) (t :: K)
/-- With other blanks between. -/
inductive Spread : List UInt8 → List UInt8 → Prop
  | nil : Spread [] []
  | byte {c u v} : gap c = false → Spread u v → Spread (c :: u) (c :: v)
  | gap {c g u v} : gap c = true → g ≠ [] → (∀ x ∈ g, gap x = true) → Spread u v → Spread (c :: u) (g ++ v)
theorem Spread.refl : ∀ u, Spread u u
  | [] => .nil
  | c :: u => by
    cases h : Tree.gap c with
    | false => exact .byte h (Spread.refl u)
    | true => exact Spread.gap (g := [c]) h (by simp) (by simpa using h) (Spread.refl u)

theorem gap_val {c : UInt8} (h : gap c = true) : c = 32 ∨ c = 10 := by simpa [gap] using h
theorem letter_val {c : UInt8} (h : letter c = true) : 97 ≤ c.toNat ∧ c.toNat ≤ 122 := by simpa [letter] using h
theorem digit_val {c : UInt8} (h : digit c = true) : 48 ≤ c.toNat ∧ c.toNat ≤ 57 := by simpa [digit] using h
theorem wordy_gap {c : UInt8} (h : wordy c = true) : gap c = false := by
  cases hg : gap c with
  | false => rfl
  | true => rcases gap_val hg with rfl | rfl <;> exact absurd h (by decide)
theorem mark_gap : ∀ t ∈ marks, ∀ x ∈ t, gap x = false ∧ wordy x = false := by decide
theorem tok_gap {t : List UInt8} (h : IsTok t) : ∀ x ∈ t, gap x = false := by
  intro x hx
  rcases h with ⟨c, r, rfl, hc, hr⟩ | ⟨c, r, rfl, hc, hr⟩ | h
  · rcases List.mem_cons.mp hx with rfl | hx
    · exact wordy_gap (by simp [wordy, hc])
    · exact wordy_gap (hr x hx)
  · rcases List.mem_cons.mp hx with rfl | hx
    · exact wordy_gap (by simp [wordy, hc])
    · exact wordy_gap (by simp [wordy, hr x hx])
  · exact (mark_gap t h x hx).1
theorem tok_ne {t : List UInt8} (h : IsTok t) : t ≠ [] := by
  rcases h with ⟨c, r, rfl, _, _⟩ | ⟨c, r, rfl, _, _⟩ | h
  · simp
  · simp
  · revert h; revert t; decide
theorem letter_not_digit {c : UInt8} (h : digit c = true) : letter c = false := by
  cases hl : letter c with
  | false => rfl
  | true => have := letter_val hl; have := digit_val h; omega
theorem kind_word {t : List UInt8} (h : IsWord t) : kindT t = .word := by
  obtain ⟨c, r, rfl, hc, _⟩ := h; simp [kindT, hc]
theorem kind_num {t : List UInt8} (h : IsNum t) : kindT t = .number := by
  obtain ⟨c, r, rfl, hc, _⟩ := h; simp [kindT, hc, letter_not_digit hc]
theorem kind_mark : ∀ t ∈ marks, kindT t = .mark := by decide
theorem howN_all {f : UInt8 → Bool} : ∀ (t u : List UInt8), (∀ x ∈ t, f x = true) → (∀ b, u.head? = some b → f b = false) → howN f (t ++ u) = t.length
  | [], [], _, _ => rfl
  | [], b :: u, _, h => by simp [howN, h b rfl]
  | c :: t, u, h1, h2 => by simp [howN, h1 c (by simp), howN_all t u (fun x hx => h1 x (by simp [hx])) h2]
theorem howN_take {f : UInt8 → Bool} : ∀ (l : List UInt8), (∀ x ∈ l.take (howN f l), f x = true) ∧ howN f l ≤ l.length
  | [] => by simp [howN]
  | c :: t => by
    have h := howN_take (f := f) t
    cases hc : f c with
    | false => simp [howN, hc]
    | true =>
      simp only [howN, hc, if_true, List.take_succ_cons, List.length_cons]
      exact ⟨fun x hx => (List.mem_cons.mp hx).elim (fun e => e ▸ hc) (h.1 x), by omega⟩
theorem next_mark {t u : List UInt8} (h : t ∈ marks) (he : Ends t u) : nextK (t ++ u) = (.mark, t.length) := by
  have hm : ∀ b v, u = b :: v → b = 61 → t ≠ [58] ∧ t ≠ [60] ∧ t ≠ [62] := by
    intro b v hu hb; subst hu; exact he.2 (by rw [hb]; rfl)
  clear he
  simp only [marks, List.mem_cons, List.not_mem_nil, or_false] at h
  rcases h with rfl | rfl | rfl | rfl | rfl | rfl | rfl | rfl | rfl | rfl | rfl | rfl | rfl | rfl | rfl | rfl | rfl | rfl <;>
    (rcases u with - | ⟨b, v⟩
     · rfl
     · by_cases hb : b = 61
       · have := hm b v rfl hb
         subst hb
         first
           | rfl
           | exact absurd rfl this.1
           | exact absurd rfl this.2.1
           | exact absurd rfl this.2.2
       · have hb' : (61 == b) = false := by simpa using fun h : 61 = b => hb h.symm
         simp [nextK, letter, digit, marks, List.find?, List.isPrefixOf, hb'])
theorem next_tok {t u : List UInt8} (h : IsTok t) (he : Ends t u) : nextK (t ++ u) = (kindT t, t.length) := by
  rcases h with hw | hn | hm
  · rw [kind_word hw]
    have hk := kind_word hw
    obtain ⟨c, r, rfl, hc, hr⟩ := hw
    have := howN_all (f := fun c => letter c || digit c) (c :: r) u (by simpa [hc] using fun x hx => by simpa [wordy] using hr x hx) (by
      intro b hb
      cases u with
      | nil => simp at hb
      | cons b' v => simp at hb; subst hb; simpa [wordy] using he.1 (by rw [hk]; simp))
    simp only [List.cons_append] at this ⊢
    rw [nextK, if_pos hc, this]
  · rw [kind_num hn]
    have hk := kind_num hn
    obtain ⟨c, r, rfl, hc, hr⟩ := hn
    have := howN_all (f := digit) (c :: r) u (by simpa [hc] using hr) (by
      intro b hb
      cases u with
      | nil => simp at hb
      | cons b' v =>
        simp at hb; subst hb
        have := he.1 (by rw [hk]; simp)
        cases hd : digit b' with
        | false => rfl
        | true => simp [wordy, hd] at this)
    simp only [List.cons_append] at this ⊢
    rw [nextK, if_neg (by simp [letter_not_digit hc]), if_pos hc, this]
  · rw [kind_mark t hm, next_mark hm he]
/-- What a token at the beginning is: one. -/
theorem next_istok {l : List UInt8} (h : (nextK l).2 ≠ 0) : IsTok (l.take (nextK l).2) ∧ kindT (l.take (nextK l).2) = (nextK l).1 ∧ (nextK l).2 ≤ l.length := by
  cases l with
  | nil => simp [nextK] at h
  | cons c t =>
    rw [nextK] at h ⊢
    by_cases hl : letter c = true
    · rw [if_pos hl] at h ⊢
      have hh := howN_take (f := fun c => letter c || digit c) (c :: t)
      have he : howN (fun c => letter c || digit c) (c :: t) = howN (fun c => letter c || digit c) t + 1 := by simp [howN, hl]
      simp only [he, List.take_succ_cons] at hh ⊢
      have hw : IsWord (c :: t.take (howN (fun c => letter c || digit c) t)) := ⟨c, _, rfl, hl, fun x hx => by simpa [wordy] using hh.1 x (by simp [hx])⟩
      exact ⟨.inl hw, kind_word hw, hh.2⟩
    · rw [if_neg hl] at h ⊢
      by_cases hd : digit c = true
      · rw [if_pos hd] at h ⊢
        have hh := howN_take (f := digit) (c :: t)
        have he : howN digit (c :: t) = howN digit t + 1 := by simp [howN, hd]
        simp only [he, List.take_succ_cons] at hh ⊢
        have hw : IsNum (c :: t.take (howN digit t)) := ⟨c, _, rfl, hd, fun x hx => hh.1 x (by simp [hx])⟩
        exact ⟨.inr (.inl hw), kind_num hw, hh.2⟩
      · rw [if_neg hd] at h ⊢
        cases hf : marks.find? fun m => m.isPrefixOf (c :: t) with
        | none => simp [hf] at h
        | some m =>
          have h1 := List.mem_of_find?_eq_some hf
          have h2 := List.find?_some hf
          obtain ⟨v, hv⟩ := List.isPrefixOf_iff_prefix.mp h2
          simp only [Option.map_some, Option.getD_some]
          rw [← hv]
          simp only [List.take_left, List.length_append]
          exact ⟨.inr (.inr h1), kind_mark m h1, by omega⟩
theorem spread_append : ∀ (t : List UInt8) {u v : List UInt8}, (∀ x ∈ t, gap x = false) → Spread (t ++ u) v → ∃ v', v = t ++ v' ∧ Spread u v'
  | [], _, v, _, h => ⟨v, rfl, h⟩
  | c :: t, u, v, ht, h => by
    cases h with
    | byte _ h =>
      obtain ⟨v', rfl, h'⟩ := spread_append t (fun x hx => ht x (by simp [hx])) h
      exact ⟨v', rfl, h'⟩
    | gap hg _ _ _ => rw [ht c (by simp)] at hg; cases hg
theorem ends_gap {t : List UInt8} {b : UInt8} {v : List UInt8} (h : gap b = true) : Ends t (b :: v) := by
  rcases gap_val h with rfl | rfl
  · exact ⟨fun _ => by decide, fun h => by simp at h⟩
  · exact ⟨fun _ => by decide, fun h => by simp at h⟩
theorem ends_spread {t u v : List UInt8} (he : Ends t u) (h : Spread u v) : Ends t v := by
  cases h with
  | nil => trivial
  | byte _ _ => exact he
  | @gap c g u v hc hg hx _ =>
    cases g with
    | nil => exact absurd rfl hg
    | cons b g => exact ends_gap (hx b (by simp))
theorem toks_gaps {g v : List UInt8} {K : List (List UInt8)} (hg : ∀ x ∈ g, gap x = true) (h : Toks v K) : Toks (g ++ v) K := by
  induction g with
  | nil => exact h
  | cons b g ih => exact .gap (hg b (by simp)) (ih fun x hx => hg x (by simp [hx]))
theorem toks_spread {u : List UInt8} {K : List (List UInt8)} (h : Toks u K) : ∀ v, Spread u v → Toks v K := by
  induction h with
  | nil => intro v hv; cases hv; exact .nil
  | gap hc _ ih =>
    intro v hv
    cases hv with
    | byte hb _ => rw [hc] at hb; cases hb
    | gap _ _ hg hs => exact toks_gaps hg (ih _ hs)
  | tok ht he _ ih =>
    intro v hv
    obtain ⟨v', rfl, h'⟩ := spread_append _ (tok_gap ht) hv
    exact .tok ht (ends_spread he h') (ih _ h')
/-- Tokens of so many texts. -/
def Are (ts : List Tok) (K : List (List UInt8)) : Prop := ts.map (·.text) = K ∧ ∀ t ∈ ts, t.kind = kindT t.text
theorem lexL_toks {u : List UInt8} {K : List (List UInt8)} (h : Toks u K) : ∀ (f i k : Nat), u.length ≤ f → k + K.length ≤ 600 → ∃ ts, lexL f i k u = .ok ts ∧ Are ts K := by
  induction h with
  | nil => intro f i k _ _; exact ⟨[], by cases f <;> rfl, rfl, by simp⟩
  | gap hc _ ih =>
    intro f i k hf hk
    cases f with
    | zero => simp at hf
    | succ f =>
      obtain ⟨ts, h1, h2⟩ := ih f (i + 1) k (by simpa using hf) hk
      exact ⟨ts, by rw [lexL]; simp [hc, h1], h2⟩
  | @tok t u K ht he _ ih =>
    intro f i k hf hk
    have hn := next_tok ht he
    have hne := tok_ne ht
    have hg := tok_gap ht
    cases t with
    | nil => exact absurd rfl hne
    | cons c r =>
      cases f with
      | zero => simp at hf
      | succ f =>
        simp only [List.length_append, List.length_cons] at hf hk
        obtain ⟨ts, h1, h2, h3⟩ := ih f (i + (c :: r).length) (k + 1) (by omega) (by omega)
        have hdrop : (c :: r ++ u).drop (c :: r).length = u := List.drop_left
        have htake : (c :: r ++ u).take (c :: r).length = c :: r := List.take_left
        refine ⟨⟨kindT (c :: r), c :: r, i⟩ :: ts, ?_, by simp [h2], ?_⟩
        · rw [List.cons_append] at hn hdrop htake ⊢
          rw [lexL]
          simp only [hn, hg c (by simp), hdrop, htake, h1]
          rw [if_neg (by simp), if_neg (by simp), if_neg (by omega)]
        · intro x hx
          rcases List.mem_cons.mp hx with rfl | hx
          · rfl
          · exact h3 x hx
/-- How many bytes tokens have. -/
def bytes (ts : List Tok) : Nat := (ts.map fun t => t.text.length).sum
def Good (ts : List Tok) : Prop := ∀ t ∈ ts, IsTok t.text ∧ t.kind = kindT t.text
theorem lexL_good : ∀ (f i k : Nat) (l : List UInt8) (ts : List Tok), lexL f i k l = .ok ts → Good ts ∧ bytes ts ≤ l.length
  | 0, _, _, l, ts, h => by cases h; exact ⟨fun _ h => by simp at h, by simp [bytes]⟩
  | f + 1, i, k, [], ts, h => by cases h; exact ⟨fun _ h => by simp at h, by simp [bytes]⟩
  | f + 1, i, k, c :: t, ts, h => by
    rw [lexL] at h
    split at h
    · have := lexL_good f _ _ _ _ h
      exact ⟨this.1, by simp only [List.length_cons]; omega⟩
    · split at h
      · cases h
      · rename_i hn
        split at h
        · cases h
        · split at h
          · rename_i ts' hts
            cases h
            have h1 := lexL_good f _ _ _ _ hts
            have h2 := next_istok hn
            refine ⟨?_, ?_⟩
            · intro x hx
              rcases List.mem_cons.mp hx with rfl | hx
              · exact ⟨h2.1, h2.2.1.symm⟩
              · exact h1.1 x hx
            · have h3 := h1.2
              have h4 : ((c :: t).take (nextK (c :: t)).2).length = (nextK (c :: t)).2 := by rw [List.length_take]; exact Nat.min_eq_left h2.2.2
              rw [List.length_drop] at h3
              simp only [bytes, List.map_cons, List.sum_cons, h4] at h3 ⊢
              have := h2.2.2
              omega
          · cases h
end Go.Mq.Tree
/- What the parser tells is well formed, and has no more tokens than the text had bytes: expressions. Plain Lean. -/
namespace Go.Mq.Tree
open Go Go.RowKit Go.Mq

/-- May be a name. -/
def Nm (n : List UInt8) : Prop := IsWord n ∧ kept n = false ∧ n.length ≤ 10
def Qm (m : List UInt8) : Prop := m = [] ∨ Nm m
def E.isX : E → Prop
  | .nil => False
  | .cons _ _ => False
  | _ => True
def E.isL : E → Prop
  | .nil => True
  | .cons _ _ => True
  | _ => False
/-- What the parser tells. -/
def WF : E → Prop
  | .num _ n => 0 ≤ n ∧ n ≤ 9223372036854775807
  | .var _ m n => Qm m ∧ Nm n
  | .item _ m n i => Qm m ∧ Nm n ∧ WF i ∧ i.isX
  | .un _ op x => (op = [45] ∨ op = [110, 111, 116]) ∧ WF x ∧ x.isX
  | .bin _ op x y => (∃ k, k < 5 ∧ op ∈ levels.getD (4 - k) []) ∧ (WF x ∧ x.isX) ∧ WF y ∧ y.isX
  | .app _ m n l => Qm m ∧ Nm n ∧ WF l ∧ l.isL
  | .nil => True
  | .cons x r => (WF x ∧ x.isX) ∧ WF r ∧ r.isL
/-- How deep, with its brackets, if it needs them. -/
def needW (lv : Nat) (x : E) (k : Nat) : Nat := if lv ≤ lvl x then k else k + 1
def need : E → Nat
  | .num _ _ => 1
  | .var _ _ _ => 1
  | .item _ _ _ i => need i + 1
  | .un _ _ x => needW 5 x (need x) + 1
  | .bin _ op x y => max (needW (opLevel op) x (need x)) (needW (opLevel op + 1) y (need y))
  | .app _ _ _ l => need l + 1
  | .nil => 0
  | .cons x r => max (need x) (need r)
/-- The texts of an expression's tokens. -/
def withinK (lv : Nat) (x : E) (K : List (List UInt8)) : List (List UInt8) := if lv ≤ lvl x then K else [40] :: (K ++ [[41]])
def qualK (m n : List UInt8) : List (List UInt8) := if m = [] then [n] else [m, [46], n]
def toks : E → List (List UInt8)
  | .num _ n => [Lib.itoa n]
  | .var _ m n => qualK m n
  | .item _ m n i => qualK m n ++ [91] :: (toks i ++ [[93]])
  | .un _ op x => op :: withinK 5 x (toks x)
  | .bin _ op x y => withinK (opLevel op) x (toks x) ++ op :: withinK (opLevel op + 1) y (toks y)
  | .app _ m n l => qualK m n ++ [40] :: (toks l ++ [[41]])
  | .nil => []
  | .cons x .nil => toks x
  | .cons x r => toks x ++ [44] :: toks r
/-- Tokens of a list, each with one more. -/
def E.cost : E → Nat
  | .cons x r => (toks x).length + 1 + r.cost
  | _ => 0

/-- Of good tokens: what comes, at what price. -/
def Sp {α : Type} (p : Ps α) (Q : α → Prop) (c : α → Nat) : Prop := ∀ ts a r, Good ts → p ts = .ok a r → Q a ∧ c a + bytes r ≤ bytes ts ∧ Good r

theorem bytes_cons (t : Tok) (r : List Tok) : bytes (t :: r) = t.text.length + bytes r := by simp [bytes]
theorem good_cons {t : Tok} {r : List Tok} (h : Good (t :: r)) : (IsTok t.text ∧ t.kind = kindT t.text) ∧ Good r := ⟨h t (by simp), fun x hx => h x (by simp [hx])⟩
theorem len_pos {t : List UInt8} (h : IsTok t) : 1 ≤ t.length := by
  cases t with
  | nil => exact absurd rfl (tok_ne h)
  | cons _ _ => simp
theorem see_cost {s : List UInt8} {ts : List Tok} (hg : Good ts) (h : see s ts = true) : s.length + bytes ts.tail = bytes ts ∧ Good ts.tail := by
  cases ts with
  | nil => simp [see] at h
  | cons t r =>
    have : t.text = s := by simpa [see] using h
    exact ⟨by rw [bytes_cons, this]; rfl, (good_cons hg).2⟩
theorem must_sp {z : Nat} {s : List UInt8} {ts : List Tok} {u : Unit} {r : List Tok} (hg : Good ts) (h : must z s ts = .ok u r) : s.length + bytes r = bytes ts ∧ Good r := by
  rw [must] at h
  split at h
  · rename_i hs; cases h; exact see_cost hg hs
  · cases h
theorem name_sp {z : Nat} : Sp (name z) Nm (fun _ => 1) := by
  intro ts n r hg h
  cases ts with
  | nil => cases h
  | cons t ts =>
    rw [name] at h
    split at h
    · cases h
    · rename_i h1
      split at h
      · cases h
      · rename_i h2
        cases h
        have hg := good_cons hg
        have hk : kindT t.text = .word := by rw [← hg.1.2]; exact Classical.not_not.mp fun h => h1 (.inl h)
        refine ⟨⟨?_, by simpa using fun h => h1 (.inr h), by omega⟩, by show 1 + _ ≤ _; rw [bytes_cons]; have := len_pos hg.1.1; omega, hg.2⟩
        rcases hg.1.1 with h | h | h
        · exact h
        · rw [kind_num h] at hk; cases hk
        · rw [kind_mark _ h] at hk; cases hk
theorem parseUintM_mono : ∀ (l : List UInt8) (M acc u : Nat), Lib.parseUintM M acc l = .ok u → acc ≤ M → u ≤ M
  | [], M, acc, u, h, ha => by cases h; exact ha
  | c :: r, M, acc, u, h, ha => by
    rw [Lib.parseUintM] at h
    split at h
    · split at h
      · cases h
      · split at h
        · cases h
        · exact parseUintM_mono r _ _ _ h (by omega)
    · cases h
theorem number_sp {z : Nat} {most : Int} : Sp (number z most) (fun n => 0 ≤ n ∧ n ≤ most) (fun _ => 1) := by
  intro ts n r hg h
  cases ts with
  | nil => cases h
  | cons t ts =>
    rw [number] at h
    split at h
    · cases h
    · rename_i h1
      have hg := good_cons hg
      have hk : kindT t.text = .number := by rw [← hg.1.2]; exact Classical.not_not.mp h1
      have hn : IsNum t.text := by
        rcases hg.1.1 with h | h | h
        · rw [kind_word h] at hk; cases hk
        · exact h
        · rw [kind_mark _ h] at hk; cases hk
      split at h
      · rename_i n' hp
        split at h
        · cases h
        · rename_i h2
          cases h
          refine ⟨⟨?_, by omega⟩, by show 1 + _ ≤ _; rw [bytes_cons]; have := len_pos hg.1.1; omega, hg.2⟩
          obtain ⟨c, r, hc, hd, _⟩ := hn
          rw [hc] at hp
          have hd := digit_val hd
          have e : (c.toNat = 45) = False := by simp; omega
          unfold Lib.parseIntB at hp
          simp only [e, not_false_eq_true, true_and, false_and, if_false] at hp
          split at hp
          · cases hp
          · cases hp
          · split at hp
            · cases hp
            · injection hp with hp; omega
      · cases h
theorem namesL_sp {z most : Nat} : ∀ (f : Nat) (l : List (List UInt8)) (ts : List Tok) (l' : List (List UInt8)) (r : List Tok), Good ts → (∀ n ∈ l, Nm n) → l.length ≤ most → namesL z most f l ts = .ok l' r →
    (∀ n ∈ l', Nm n) ∧ l'.length ≤ most ∧ l.length < l'.length ∧ 2 * l'.length + bytes r ≤ 2 * l.length + bytes ts + 1 ∧ Good r
  | 0, _, _, _, _, _, _, _, h => by cases h
  | f + 1, l, ts, l', r, hg, hl, hm, h => by
    rw [namesL] at h
    split at h
    · cases h
    · cases hn : name z ts with
      | bad e p => simp only [hn] at h; cases h
      | ok n r1 =>
        obtain ⟨h1, h2, h3⟩ := name_sp _ _ _ hg hn
        replace h2 : 1 + bytes r1 ≤ bytes ts := h2
        have hl2 : ∀ x ∈ l ++ [n], Nm x := by
          intro x hx
          rcases List.mem_append.mp hx with hx | hx
          · exact hl x hx
          · simp at hx; subst hx; exact h1
        simp only [hn] at h
        split at h
        · rename_i hs
          have hc := see_cost h3 hs
          have hr := namesL_sp f _ _ _ _ hc.2 hl2 (by simp; omega) h
          simp only [List.length_append, List.length_cons, List.length_nil] at hr hc
          exact ⟨hr.1, hr.2.1, by omega, by omega, hr.2.2.2.2⟩
        · cases h
          exact ⟨hl2, by simp; omega, by simp, by simp; omega, h3⟩
theorem names_sp {z most : Nat} {ts : List Tok} {l : List (List UInt8)} {r : List Tok} (hg : Good ts) (h : names z most ts = .ok l r) : (∀ n ∈ l, Nm n) ∧ l.length ≤ most ∧ l ≠ [] ∧ 2 * l.length + bytes r ≤ bytes ts + 1 ∧ Good r := by
  have := namesL_sp _ _ _ _ _ hg (by simp) (by simp) h
  simp only [List.length_nil] at this
  exact ⟨this.1, this.2.1, fun h => by rw [h] at this; simp at this, by omega, this.2.2.2.2⟩
theorem qual_sp {z : Nat} : Sp (qual z) (fun q => Qm q.1 ∧ Nm q.2) (fun q => (qualK q.1 q.2).length) := by
  intro ts q r hg h
  rw [qual] at h
  cases h1 : name z ts with
  | bad e p => simp only [h1] at h; cases h
  | ok n r1 =>
    obtain ⟨a1, a2, a3⟩ := name_sp _ _ _ hg h1
    replace a2 : 1 + bytes r1 ≤ bytes ts := a2
    simp only [h1] at h
    split at h
    · rename_i hs
      have hc := see_cost a3 hs
      cases h2 : name z r1.tail with
      | bad e p => simp only [h2] at h; cases h
      | ok n2 r2 =>
        obtain ⟨b1, b2, b3⟩ := name_sp _ _ _ hc.2 h2
        replace b2 : 1 + bytes r2 ≤ bytes r1.tail := b2
        simp only [h2] at h
        cases h
        refine ⟨⟨.inr a1, b1⟩, ?_, b3⟩
        have : (qualK n n2).length ≤ 3 := by rw [qualK]; split <;> simp
        simp only [List.length_cons, List.length_nil] at hc
        simp only
        omega
    · cases h
      exact ⟨⟨.inl rfl, a1⟩, by simp [qualK]; omega, a3⟩

theorem op_level : ∀ k < 5, ∀ op ∈ levels.getD (4 - k) [], opLevel op = 4 - k := by decide
theorem within_len (lv : Nat) (x : E) (K : List (List UInt8)) : (withinK lv x K).length ≤ K.length + 2 := by rw [withinK]; split <;> simp
theorem within_mono {a b : Nat} (h : a ≤ b) (x : E) (K : List (List UInt8)) : (withinK a x K).length ≤ (withinK b x K).length := by
  rw [withinK, withinK]; split <;> split <;> simp <;> omega
theorem needW_mono {a b : Nat} (h : a ≤ b) (x : E) (k : Nat) : needW a x k ≤ needW b x k := by
  rw [needW, needW]; split <;> split <;> omega
/-- An expression that may stand at a level, so deep. -/
def Fits (d lv : Nat) (x : E) : Prop := (WF x ∧ x.isX) ∧ needW lv x (need x) ≤ d
def costW (lv : Nat) (x : E) : Nat := (withinK lv x (toks x)).length
theorem op_cost {lv : List (List UInt8)} {ts : List Tok} {m : List UInt8} (hg : Good ts) (h : opOf lv ts = some m) : m ∈ lv ∧ 1 + bytes ts.tail ≤ bytes ts ∧ Good ts.tail := by
  have h1 := List.mem_of_find?_eq_some h
  have h2 := List.find?_some h
  have h3 := see_cost hg h2
  refine ⟨h1, ?_, h3.2⟩
  cases ts with
  | nil => simp [see] at h2
  | cons t r => rw [bytes_cons]; have := len_pos (good_cons hg).1.1; simp; omega
theorem binL_sp {sub : Ps E} {k d : Nat} (p : Nat) (hk : k < 5) (hs : Sp sub (Fits d (5 - k)) (costW (5 - k))) : ∀ (f : Nat) (x : E) (ts : List Tok) (a : E) (r : List Tok), Good ts → Fits d (4 - k) x → binL sub (levels.getD (4 - k) []) p f x ts = .ok a r →
    Fits d (4 - k) a ∧ costW (4 - k) a + bytes r ≤ costW (4 - k) x + bytes ts ∧ Good r
  | 0, _, _, _, _, _, _, h => by cases h
  | f + 1, x, ts, a, r, hg, hx, h => by
    rw [binL] at h
    split at h
    · cases h; exact ⟨hx, Nat.le_refl _, hg⟩
    · rename_i m hm
      obtain ⟨o1, o2, o3⟩ := op_cost hg hm
      cases hy : sub ts.tail with
      | bad e q => simp only [hy] at h; cases h
      | ok y r1 =>
        obtain ⟨y1, y2, y3⟩ := hs _ _ _ o3 hy
        simp only [hy] at h
        have hlv := op_level k hk m o1
        have e5 : 5 - k = 4 - k + 1 := by omega
        rw [e5] at y1 y2
        have hb : Fits d (4 - k) (.bin p m x y) := by
          refine ⟨⟨⟨⟨k, hk, o1⟩, hx.1, y1.1⟩, trivial⟩, ?_⟩
          have h1 := hx.2; have h2 := y1.2
          rw [needW, if_pos (by rw [lvl, hlv]; exact Nat.le_refl _), need, hlv]
          omega
        obtain ⟨b1, b2, b3⟩ := binL_sp p hk hs f _ _ _ _ y3 hb h
        have hc : costW (4 - k) (.bin p m x y) = costW (4 - k) x + 1 + costW (4 - k + 1) y := by
          rw [costW, withinK, if_pos (by rw [lvl, hlv]; exact Nat.le_refl _), toks, hlv, List.length_append, List.length_cons, costW, costW]; omega
        exact ⟨b1, by omega, b3⟩
theorem expr_sp {z d : Nat} {base : Ps E} (hb : Sp base (Fits d 5) (costW 5)) : ∀ (k : Nat), k ≤ 5 → Sp (expr z base k) (Fits d (5 - k)) (costW (5 - k))
  | 0, _ => hb
  | k + 1, hk => by
    intro ts a r hg h
    have ih := expr_sp (z := z) hb k (by omega)
    rw [expr] at h
    cases hx : expr z base k ts with
    | bad e q => simp only [hx] at h; cases h
    | ok x r1 =>
      obtain ⟨x1, x2, x3⟩ := ih _ _ _ hg hx
      simp only [hx] at h
      have e4 : 5 - (k + 1) = 4 - k := by omega
      rw [e4]
      have hx' : Fits d (4 - k) x := ⟨x1.1, Nat.le_trans (needW_mono (by omega) _ _) x1.2⟩
      obtain ⟨b1, b2, b3⟩ := binL_sp _ (by omega) ih _ _ _ _ _ x3 hx' h
      have : costW (4 - k) x ≤ costW (5 - k) x := within_mono (by omega) _ _
      exact ⟨b1, by omega, b3⟩
theorem ofList_isL : ∀ l, (E.ofList l).isL
  | [] => trivial
  | _ :: _ => trivial
theorem toks_cost : ∀ (x : E) (l : List E), (toks (E.ofList (x :: l))).length + 1 = (E.ofList (x :: l)).cost
  | x, [] => by simp [E.ofList, toks, E.cost]
  | x, y :: r => by
    have := toks_cost y r
    simp only [E.ofList] at this ⊢
    rw [toks, E.cost]
    · simp only [List.length_append, List.length_cons]; omega
    · intro h; cases h
theorem cost_append : ∀ (l : List E) (x : E), (E.ofList (l ++ [x])).cost = (E.ofList l).cost + (toks x).length + 1
  | [], x => by simp [E.ofList, E.cost]
  | y :: l, x => by simp only [List.cons_append, E.ofList, E.cost, cost_append l x]; omega
theorem args_sp {z d : Nat} {ex : Ps E} (he : Sp ex (Fits d 0) (costW 0)) : ∀ (f : Nat) (first : Bool) (l : List E) (ts : List Tok) (l' : List E) (r : List Tok), Good ts → (∀ x ∈ l, Fits d 0 x) → argsL z ex f first l ts = .ok l' r →
    (∀ x ∈ l', Fits d 0 x) ∧ ((l' = l ∧ 1 + bytes r = bytes ts) ∨ (l' ≠ [] ∧ (E.ofList l').cost + 1 + bytes r ≤ (E.ofList l).cost + bytes ts + (if first then 1 else 0))) ∧ Good r
  | 0, _, _, _, _, _, _, _, h => by cases h
  | f + 1, first, l, ts, l', r, hg, hl, h => by
    rw [argsL] at h
    split at h
    · rename_i hs
      cases h
      have := see_cost hg hs
      exact ⟨hl, .inl ⟨rfl, by simpa using this.1⟩, this.2⟩
    · split at h
      · cases h
      · rename_i h2
        have h3 : (Good (if first then ts else ts.tail)) ∧ bytes (if first then ts else ts.tail) + (if first then 0 else 1) = bytes ts := by
          cases first with
          | true => exact ⟨hg, rfl⟩
          | false =>
            have hs : see [44] ts = true := by simpa using h2
            have := see_cost hg hs
            exact ⟨this.2, by simp only [List.length_cons, List.length_nil] at this; simp; omega⟩
        cases hx : ex (if first then ts else ts.tail) with
        | bad e q => simp only [hx] at h; cases h
        | ok x r1 =>
          obtain ⟨x1, x2, x3⟩ := he _ _ _ h3.1 hx
          simp only [hx] at h
          have hl2 : ∀ y ∈ l ++ [x], Fits d 0 y := by
            intro y hy
            rcases List.mem_append.mp hy with hy | hy
            · exact hl y hy
            · simp at hy; subst hy; exact x1
          obtain ⟨b1, b2, b3⟩ := args_sp he f false _ _ _ _ x3 hl2 h
          have : costW 0 x = (toks x).length := by rw [costW, withinK, if_pos (Nat.zero_le _)]
          refine ⟨b1, .inr ?_, b3⟩
          have hca := cost_append l x
          rcases b2 with ⟨rfl, b2⟩ | ⟨n2, b2⟩
          · refine ⟨by simp, ?_⟩
            rw [hca]
            cases first <;> simp at * <;> omega
          · refine ⟨n2, ?_⟩
            rw [hca] at b2
            cases first <;> simp at * <;> omega
theorem list_fits {d : Nat} : ∀ l : List E, (∀ x ∈ l, Fits d 0 x) → WF (E.ofList l) ∧ need (E.ofList l) ≤ d
  | [], _ => ⟨trivial, Nat.zero_le _⟩
  | x :: l, h => by
    have h1 := h x (by simp)
    have h2 := list_fits l fun y hy => h y (by simp [hy])
    have h3 := h1.2
    rw [needW, if_pos (Nat.zero_le _)] at h3
    exact ⟨⟨h1.1, h2.1, ofList_isL l⟩, by rw [E.ofList, need]; omega⟩
theorem fits_top {d : Nat} {x : E} (h : WF x ∧ x.isX) (hl : lvl x = 5) (hn : need x ≤ d) : Fits d 5 x ∧ costW 5 x = (toks x).length := by
  refine ⟨⟨h, ?_⟩, ?_⟩
  · rw [needW, if_pos (by omega)]; exact hn
  · rw [costW, withinK, if_pos (by omega)]
theorem fits0 {d : Nat} {x : E} (h : Fits d 0 x) : need x ≤ d ∧ costW 0 x = (toks x).length := by
  have := h.2
  rw [needW, if_pos (Nat.zero_le _)] at this
  exact ⟨this, by rw [costW, withinK, if_pos (Nat.zero_le _)]⟩
theorem named_sp {z d : Nat} {ex : Ps E} (he : Sp ex (Fits d 0) (costW 0)) : Sp (named z ex) (Fits (d + 1) 5) (costW 5) := by
  intro ts a r hg h
  rw [named] at h
  cases hq : qual z ts with
  | bad e p => simp only [hq] at h; cases h
  | ok q r1 =>
    obtain ⟨q1, q2, q3⟩ := qual_sp _ _ _ hg hq
    replace q2 : (qualK q.1 q.2).length + bytes r1 ≤ bytes ts := q2
    simp only [hq] at h
    split at h
    · rename_i hs
      have hc := see_cost q3 hs
      cases hx : ex r1.tail with
      | bad e p => simp only [hx] at h; cases h
      | ok i r2 =>
        obtain ⟨x1, x2, x3⟩ := he _ _ _ hc.2 hx
        simp only [hx] at h
        cases hm : must z [93] r2 with
        | bad e p => simp only [hm] at h; cases h
        | ok u r3 =>
          have m1 := must_sp x3 hm
          simp only [hm] at h
          cases h
          have ⟨n1, c1⟩ := fits0 x1
          obtain ⟨f1, f2⟩ := fits_top (d := d + 1) (x := .item (hd z ts) q.1 q.2 i) ⟨⟨q1.1, q1.2, x1.1⟩, trivial⟩ rfl (by rw [need]; omega)
          refine ⟨f1, ?_, m1.2⟩
          rw [f2, toks]
          simp only [List.length_append, List.length_cons, List.length_nil] at *
          omega
    · split at h
      · rename_i hs
        have hc := see_cost q3 hs
        cases hx : argsL z ex (r1.length + 1) true [] r1.tail with
        | bad e p => simp only [hx] at h; cases h
        | ok l r2 =>
          obtain ⟨x1, x2, x3⟩ := args_sp he _ _ _ _ _ _ hc.2 (by simp) hx
          simp only [hx] at h
          cases h
          have ⟨n1, n2⟩ := list_fits l x1
          have n3 : (toks (E.ofList l)).length + 1 + bytes r ≤ bytes r1.tail := by
            rcases x2 with ⟨rfl, x2⟩ | ⟨x2, x3⟩
            · simp [E.ofList, toks]; omega
            · cases l with
              | nil => exact absurd rfl x2
              | cons y l => have := toks_cost y l; simp only [E.ofList, E.cost, if_true] at *; omega
          obtain ⟨f1, f2⟩ := fits_top (d := d + 1) (x := .app (hd z ts) q.1 q.2 (E.ofList l)) ⟨⟨q1.1, q1.2, n1, ofList_isL l⟩, trivial⟩ rfl (by rw [need]; omega)
          refine ⟨f1, ?_, x3⟩
          rw [f2, toks]
          simp only [List.length_append, List.length_cons, List.length_nil] at *
          omega
      · cases h
        obtain ⟨f1, f2⟩ := fits_top (d := d + 1) (x := .var (hd z ts) q.1 q.2) ⟨⟨q1.1, q1.2⟩, trivial⟩ rfl (by rw [need]; omega)
        exact ⟨f1, by rw [f2, toks]; exact q2, q3⟩
theorem one_sp (z : Nat) : ∀ d, Sp (one z d) (Fits d 5) (costW 5)
  | 0 => by intro ts a r _ h; cases h
  | d + 1 => by
    intro ts a r hg h
    have ih := one_sp z d
    have hex : Sp (expr z (one z d) 5) (Fits d 0) (costW 0) := expr_sp ih 5 (Nat.le_refl _)
    have un : ∀ (s : List UInt8), (s = [45] ∨ s = [110, 111, 116]) → see s ts = true → (match one z d ts.tail with | .bad e p => R.bad e p | .ok x r => .ok (.un (hd z ts) s x) r) = R.ok a r → Fits (d + 1) 5 a ∧ costW 5 a + bytes r ≤ bytes ts ∧ Good r := by
      intro s hs h1 h
      have hc := see_cost hg h1
      have hl : 1 ≤ s.length := by rcases hs with rfl | rfl <;> simp
      cases hx : one z d ts.tail with
      | bad e p => simp only [hx] at h; cases h
      | ok x r1 =>
        obtain ⟨x1, x2, x3⟩ := ih _ _ _ hc.2 hx
        simp only [hx] at h
        cases h
        obtain ⟨f1, f2⟩ := fits_top (d := d + 1) (x := .un (hd z ts) s x) ⟨⟨hs, x1.1⟩, trivial⟩ rfl (by rw [need]; have := x1.2; omega)
        refine ⟨f1, ?_, x3⟩
        rw [f2, toks, List.length_cons]
        rw [costW] at x2
        omega
    rw [one] at h
    dsimp only at h
    split at h
    · rename_i h1; exact un _ (.inl rfl) h1 h
    · split at h
      · rename_i h1; exact un _ (.inr rfl) h1 h
      · split at h
        · rename_i h1
          have hc := see_cost hg h1
          cases hx : expr z (one z d) 5 ts.tail with
          | bad e p => simp only [hx] at h; cases h
          | ok x r1 =>
            obtain ⟨x1, x2, x3⟩ := hex _ _ _ hc.2 hx
            simp only [hx] at h
            cases hm : must z [41] r1 with
            | bad e p => simp only [hm] at h; cases h
            | ok u r2 =>
              have m1 := must_sp x3 hm
              simp only [hm] at h
              cases h
              have ⟨n1, c1⟩ := fits0 x1
              refine ⟨⟨x1.1, ?_⟩, ?_, m1.2⟩
              · rw [needW]; split <;> omega
              · have := within_len 5 a (toks a)
                rw [costW]
                simp only [List.length_cons, List.length_nil] at *
                omega
        · cases ts with
          | nil => exact named_sp hex _ _ _ hg h
          | cons t ts =>
            simp only at h
            split at h
            · rename_i hk
              cases hn : number z 9223372036854775807 (t :: ts) with
              | bad e p => simp only [hn] at h; cases h
              | ok n r1 =>
                obtain ⟨a1, a2, a3⟩ := number_sp _ _ _ hg hn
                simp only [hn] at h
                cases h
                obtain ⟨f1, f2⟩ := fits_top (d := d + 1) (x := .num t.pos n) ⟨a1, trivial⟩ rfl (by rw [need]; omega)
                exact ⟨f1, by rw [f2, toks]; exact a2, a3⟩
            · exact named_sp hex _ _ _ hg h
theorem ex0_sp (z : Nat) : Sp (ex0 z) (Fits 11 0) (costW 0) := expr_sp (one_sp z 11) 5 (Nat.le_refl _)
end Go.Mq.Tree
/- What the parser tells is well formed, and has no more tokens than the text had bytes: statements, modules. Plain Lean. -/
namespace Go.Mq.Tree
open Go Go.RowKit Go.Mq
/-- Statements that may stand where so many more may lie in them. -/
def WFS : Nat → S → Prop
  | _, .nil => True
  | d, .set _ n i v r => Nm n ∧ (∀ x, i = some x → Fits 10 0 x) ∧ Fits 11 0 v ∧ WFS d r
  | d, .ifs _ v t e r => Fits 11 0 v ∧ ((0 < d ∧ WFS (d - 1) t) ∧ 0 < d ∧ WFS (d - 1) e) ∧ WFS d r
  | d, .whil _ v t r => Fits 11 0 v ∧ (0 < d ∧ WFS (d - 1) t) ∧ WFS d r
  | d, .ret _ v r => Fits 11 0 v ∧ WFS d r
  | d, .wri _ v r => Fits 11 0 v ∧ WFS d r
  | d, .call _ v r => (Fits 11 5 v ∧ ∃ p m n l, v = .app p m n l) ∧ WFS d r
abbrev BQ (d : Nat) (s : S) : Prop := 0 < d ∧ WFS (d - 1) s
def indexK : Option E → List (List UInt8)
  | some x => [91] :: (toks x ++ [[93]])
  | none => []
def stmtK : S → List (List UInt8)
  | .nil => []
  | .set _ n i v r => n :: (indexK i ++ [58, 61] :: (toks v ++ [59] :: stmtK r))
  | .ret _ v r => [114, 101, 116, 117, 114, 110] :: (toks v ++ [59] :: stmtK r)
  | .wri _ v r => [119, 114, 105, 116, 101] :: (toks v ++ [59] :: stmtK r)
  | .call _ v r => toks v ++ [59] :: stmtK r
  | .whil _ v t r => [119, 104, 105, 108, 101] :: (toks v ++ [100, 111] :: (stmtK t ++ [101, 110, 100] :: [59] :: stmtK r))
  | .ifs _ v t e r => [105, 102] :: (toks v ++ [116, 104, 101, 110] :: (stmtK t ++ ((if e.isNil then [] else [101, 108, 115, 101] :: stmtK e) ++ [101, 110, 100] :: [59] :: stmtK r)))
theorem WFS_app : ∀ (d : Nat) (l s : S), WFS d l → WFS d s → WFS d (l.app s)
  | _, .nil, _, _, h => h
  | d, .set _ _ _ _ r, s, h, hs => ⟨h.1, h.2.1, h.2.2.1, WFS_app d r s h.2.2.2 hs⟩
  | d, .ifs _ _ _ _ r, s, h, hs => ⟨h.1, h.2.1, WFS_app d r s h.2.2 hs⟩
  | d, .whil _ _ _ r, s, h, hs => ⟨h.1, h.2.1, WFS_app d r s h.2.2 hs⟩
  | d, .ret _ _ r, s, h, hs => ⟨h.1, WFS_app d r s h.2 hs⟩
  | d, .wri _ _ r, s, h, hs => ⟨h.1, WFS_app d r s h.2 hs⟩
  | d, .call _ _ r, s, h, hs => ⟨h.1, WFS_app d r s h.2 hs⟩
theorem stmtK_app : ∀ (l s : S), stmtK (l.app s) = stmtK l ++ stmtK s
  | .nil, _ => rfl
  | .set _ _ _ _ r, s => by simp [S.app, stmtK, stmtK_app r s]
  | .ifs _ _ _ _ r, s => by simp [S.app, stmtK, stmtK_app r s]
  | .whil _ _ _ r, s => by simp [S.app, stmtK, stmtK_app r s]
  | .ret _ _ r, s => by simp [S.app, stmtK, stmtK_app r s]
  | .wri _ _ r, s => by simp [S.app, stmtK, stmtK_app r s]
  | .call _ _ r, s => by simp [S.app, stmtK, stmtK_app r s]
/-- One token more: the mark behind. -/
def Sp1 {α : Type} (p : Ps α) (Q : α → Prop) (c : α → Nat) : Prop := ∀ ts a r, Good ts → p ts = .ok a r → Q a ∧ c a + bytes r ≤ bytes ts + 1 ∧ Good r
def costR (x : E × S × S) : Nat := (toks x.1).length + 1 + (stmtK x.2.1).length + (if x.2.2.isNil then 0 else (stmtK x.2.2).length + 1)
theorem ex0_is {z : Nat} {ts r : List Tok} {x : E} (hg : Good ts) (h : ex0 z ts = .ok x r) : Fits 11 0 x ∧ (toks x).length + bytes r ≤ bytes ts ∧ Good r := by
  obtain ⟨h1, h2, h3⟩ := ex0_sp z _ _ _ hg h
  have := (fits0 h1).2
  exact ⟨h1, by omega, h3⟩
theorem first_sp (z d p : Nat) : Sp1 (first z p) (WFS d) (fun s => (stmtK s).length) := by
  intro ts a r hg h
  rw [first] at h
  cases hn : named z (expr z (one z 10) 5) ts with
  | bad e q => simp only [hn] at h; cases h
  | ok e r1 =>
    obtain ⟨e1, e2, e3⟩ := named_sp (d := 10) (expr_sp (one_sp z 10) 5 (Nat.le_refl _)) _ _ _ hg hn
    have set : ∀ (n : List UInt8) (i : Option E), Nm n → (∀ x, i = some x → Fits 10 0 x) → 1 + (indexK i).length + bytes r1 ≤ bytes ts →
        (match must z [58, 61] r1 with | .bad e q => R.bad e q | .ok _ r2 => match ex0 z r2 with | .bad e q => .bad e q | .ok v r3 => .ok (.set p n i v .nil) r3) = R.ok a r → WFS d a ∧ (stmtK a).length + bytes r ≤ bytes ts + 1 ∧ Good r := by
      intro n i hn hi hb h
      cases hm : must z [58, 61] r1 with
      | bad e q => simp only [hm] at h; cases h
      | ok u r2 =>
        have m1 := must_sp e3 hm
        simp only [hm] at h
        cases hx : ex0 z r2 with
        | bad e q => simp only [hx] at h; cases h
        | ok v r3 =>
          obtain ⟨x1, x2, x3⟩ := ex0_is m1.2 hx
          simp only [hx] at h
          cases h
          refine ⟨⟨hn, hi, x1, trivial⟩, ?_, x3⟩
          simp only [stmtK, List.length_cons, List.length_append, List.length_nil] at *
          omega
    cases e with
    | app a2 m n l =>
      simp only [hn] at h
      cases h
      refine ⟨⟨⟨e1, _, _, _, _, rfl⟩, trivial⟩, ?_, e3⟩
      rw [costW, withinK, if_pos (show 5 ≤ lvl (E.app a2 m n l) from Nat.le_refl 5)] at e2
      simp only [stmtK, List.length_append, List.length_cons, List.length_nil]
      omega
    | item a2 m n i =>
      simp only [hn] at h
      split at h
      · cases h
      · rename_i hm
        have hm : m = [] := Classical.not_not.mp hm
        subst hm
        have hd := e1.2
        rw [needW, if_pos (show 5 ≤ lvl (E.item a2 [] n i) from Nat.le_refl 5), need] at hd
        rw [costW, withinK, if_pos (show 5 ≤ lvl (E.item a2 [] n i) from Nat.le_refl 5)] at e2
        refine set n (some i) e1.1.1.2.1 ?_ ?_ h
        · intro x hx; cases hx; exact ⟨e1.1.1.2.2, by rw [needW, if_pos (Nat.zero_le _)]; omega⟩
        · simp only [toks, qualK, indexK, if_true, List.length_append, List.length_cons, List.length_nil] at *; omega
    | var a2 m n =>
      simp only [hn] at h
      split at h
      · cases h
      · rename_i hm
        have hm : m = [] := Classical.not_not.mp hm
        subst hm
        rw [costW, withinK, if_pos (show 5 ≤ lvl (E.var a2 [] n) from Nat.le_refl 5)] at e2
        refine set n none e1.1.1.2 (by intro x hx; cases hx) ?_ h
        simp only [toks, qualK, indexK, if_true, List.length_cons, List.length_nil] at *; omega
    | num _ _ => simp only [hn] at h; cases h
    | un _ _ _ => simp only [hn] at h; cases h
    | bin _ _ _ _ => simp only [hn] at h; cases h
    | nil => simp only [hn] at h; cases h
    | cons _ _ => simp only [hn] at h; cases h
abbrev RQ (d : Nat) (x : E × S × S) : Prop := Fits 11 0 x.1 ∧ BQ d x.2.1 ∧ BQ d x.2.2
theorem isNil_len {e : S} (h : e.isNil = true) : e = .nil := by cases e <;> first | rfl | cases h
theorem restL_sp {z d : Nat} {bd : Ps S} {more : Ps (E × S × S)} (hb : Sp bd (BQ d) (fun s => (stmtK s).length)) (hm : Sp more (fun x => 0 < d ∧ RQ (d - 1) x) costR) : Sp (restL z bd more) (RQ d) costR := by
  intro ts a r hg h
  rw [restL] at h
  cases h1 : ex0 z ts with
  | bad e q => simp only [h1] at h; cases h
  | ok v r1 =>
    obtain ⟨a1, a2, a3⟩ := ex0_is hg h1
    simp only [h1] at h
    cases h2 : must z [116, 104, 101, 110] r1 with
    | bad e q => simp only [h2] at h; cases h
    | ok u r2 =>
      have m1 := must_sp a3 h2
      simp only [h2] at h
      cases h3 : bd r2 with
      | bad e q => simp only [h3] at h; cases h
      | ok t r3 =>
        obtain ⟨b1, b2, b3⟩ := hb _ _ _ m1.2 h3
        replace b2 : (stmtK t).length + bytes r3 ≤ bytes r2 := b2
        simp only [h3] at h
        split at h
        · rename_i hs
          have hc := see_cost b3 hs
          cases h4 : more r3.tail with
          | bad e q => simp only [h4] at h; cases h
          | ok x r4 =>
            obtain ⟨c1, c2, c3⟩ := hm _ _ _ hc.2 h4
            simp only [h4] at h
            cases h
            refine ⟨⟨a1, b1, c1.1, c1.2.1, ⟨c1.2.2.1, c1.2.2.2⟩, trivial⟩, ?_, c3⟩
            rw [costR] at c2 ⊢
            have e1 : ((if x.2.2.isNil then [] else [101, 108, 115, 101] :: stmtK x.2.2) : List (List UInt8)).length = (if x.2.2.isNil then 0 else (stmtK x.2.2).length + 1) := by split <;> rfl
            simp only [stmtK, S.isNil, List.length_cons, List.length_append, List.length_nil, e1] at *
            simp only [Bool.false_eq_true, if_false]
            omega
        · split at h
          · rename_i hs
            have hc := see_cost b3 hs
            cases h4 : bd r3.tail with
            | bad e q => simp only [h4] at h; cases h
            | ok e2 r4 =>
              obtain ⟨c1, c2, c3⟩ := hb _ _ _ hc.2 h4
              replace c2 : (stmtK e2).length + bytes r ≤ bytes r3.tail := by simp only [h4] at h; cases h; exact c2
              simp only [h4] at h
              cases h
              refine ⟨⟨a1, b1, c1⟩, ?_, c3⟩
              rw [costR]
              simp only [List.length_cons, List.length_nil] at *
              split <;> omega
          · cases h
            refine ⟨⟨a1, b1, b1.1, trivial⟩, ?_, b3⟩
            rw [costR]
            simp only [S.isNil, if_true, List.length_cons, List.length_nil] at *
            omega
theorem stmt_sp {z d : Nat} {bd : Ps S} {rest : Ps (E × S × S)} (hb : Sp bd (BQ d) (fun s => (stmtK s).length)) (hr : Sp rest (RQ d) costR) : Sp1 (stmt z bd rest) (WFS d) (fun s => (stmtK s).length) := by
  intro ts a r hg h
  rw [stmt] at h
  split at h
  · rename_i hs
    have hc := see_cost hg hs
    cases h1 : rest ts.tail with
    | bad e q => simp only [h1] at h; cases h
    | ok x r1 =>
      obtain ⟨a1, a2, a3⟩ := hr _ _ _ hc.2 h1
      simp only [h1] at h
      cases h2 : must z [101, 110, 100] r1 with
      | bad e q => simp only [h2] at h; cases h
      | ok u r2 =>
        have m1 := must_sp a3 h2
        simp only [h2] at h
        cases h
        refine ⟨⟨a1.1, ⟨a1.2.1, a1.2.2⟩, trivial⟩, ?_, m1.2⟩
        rw [costR] at a2
        have e1 : ((if x.2.2.isNil then [] else [101, 108, 115, 101] :: stmtK x.2.2) : List (List UInt8)).length = (if x.2.2.isNil then 0 else (stmtK x.2.2).length + 1) := by split <;> rfl
        simp only [stmtK, List.length_cons, List.length_append, List.length_nil, e1] at *
        omega
  · split at h
    · rename_i hs
      have hc := see_cost hg hs
      cases h1 : ex0 z ts.tail with
      | bad e q => simp only [h1] at h; cases h
      | ok v r1 =>
        obtain ⟨a1, a2, a3⟩ := ex0_is hc.2 h1
        simp only [h1] at h
        cases h2 : must z [100, 111] r1 with
        | bad e q => simp only [h2] at h; cases h
        | ok u r2 =>
          have m1 := must_sp a3 h2
          simp only [h2] at h
          cases h3 : bd r2 with
          | bad e q => simp only [h3] at h; cases h
          | ok t r3 =>
            obtain ⟨b1, b2, b3⟩ := hb _ _ _ m1.2 h3
            simp only [h3] at h
            cases h4 : must z [101, 110, 100] r3 with
            | bad e q => simp only [h4] at h; cases h
            | ok u r4 =>
              have m2 := must_sp b3 h4
              simp only [h4] at h
              cases h
              refine ⟨⟨a1, b1, trivial⟩, ?_, m2.2⟩
              simp only [stmtK, List.length_cons, List.length_append, List.length_nil] at *
              omega
    · split at h
      · rename_i hs
        have hc := see_cost hg hs
        cases h1 : ex0 z ts.tail with
        | bad e q => simp only [h1] at h; cases h
        | ok v r1 =>
          obtain ⟨a1, a2, a3⟩ := ex0_is hc.2 h1
          simp only [h1] at h
          cases h
          refine ⟨⟨a1, trivial⟩, ?_, a3⟩
          simp only [stmtK, List.length_cons, List.length_append, List.length_nil] at *
          omega
      · split at h
        · rename_i hs
          have hc := see_cost hg hs
          cases h1 : ex0 z ts.tail with
          | bad e q => simp only [h1] at h; cases h
          | ok v r1 =>
            obtain ⟨a1, a2, a3⟩ := ex0_is hc.2 h1
            simp only [h1] at h
            cases h
            refine ⟨⟨a1, trivial⟩, ?_, a3⟩
            simp only [stmtK, List.length_cons, List.length_append, List.length_nil] at *
            omega
        · exact first_sp z d _ _ _ _ hg h
theorem bodyL_sp {z d : Nat} {st : Ps S} (hs : Sp1 st (WFS d) (fun s => (stmtK s).length)) : ∀ (f : Nat) (l : S) (ts : List Tok) (a : S) (r : List Tok), Good ts → WFS d l → bodyL z st f l ts = .ok a r → WFS d a ∧ (stmtK a).length + bytes r ≤ (stmtK l).length + bytes ts ∧ Good r
  | 0, _, _, _, _, _, _, h => by cases h
  | f + 1, l, ts, a, r, hg, hl, h => by
    rw [bodyL] at h
    split at h
    · cases h; exact ⟨hl, Nat.le_refl _, hg⟩
    · cases h1 : st ts with
      | bad e q => simp only [h1] at h; cases h
      | ok s r1 =>
        obtain ⟨a1, a2, a3⟩ := hs _ _ _ hg h1
        replace a2 : (stmtK s).length + bytes r1 ≤ bytes ts + 1 := a2
        simp only [h1] at h
        cases h2 : must z [59] r1 with
        | bad e q => simp only [h2] at h; cases h
        | ok u r2 =>
          have m1 := must_sp a3 h2
          simp only [h2] at h
          obtain ⟨b1, b2, b3⟩ := bodyL_sp hs f _ _ _ _ m1.2 (WFS_app d l s hl a1) h
          rw [stmtK_app, List.length_append] at b2
          simp only [List.length_cons, List.length_nil] at m1
          exact ⟨b1, by omega, b3⟩
theorem bodies_sp (z : Nat) : ∀ d, Sp (bodies z d).1 (BQ d) (fun s => (stmtK s).length) ∧ Sp (bodies z d).2 (fun x => 0 < d ∧ RQ (d - 1) x) costR
  | 0 => ⟨fun ts a r _ h => (by cases h), fun ts a r _ h => (by cases h)⟩
  | d + 1 => by
    obtain ⟨h1, h2⟩ := bodies_sp z d
    have hr := restL_sp (z := z) h1 h2
    refine ⟨fun ts a r hg h => ?_, fun ts a r hg h => ?_⟩
    · obtain ⟨a1, a2, a3⟩ := bodyL_sp (stmt_sp (z := z) h1 hr) _ .nil _ _ _ hg trivial h
      exact ⟨⟨Nat.succ_pos _, a1⟩, by simpa [stmtK] using a2, a3⟩
    · obtain ⟨a1, a2, a3⟩ := hr _ _ _ hg h
      exact ⟨⟨Nat.succ_pos _, a1⟩, a2, a3⟩
theorem body0_sp (z : Nat) : Sp (body0 z) (WFS 10) (fun s => (stmtK s).length) := fun ts a r hg h => by
  obtain ⟨a1, a2, a3⟩ := (bodies_sp z 11).1 ts a r hg h
  exact ⟨a1.2, a2, a3⟩

/-! ### Modules -/
structure WFG (g : Glob) : Prop where
  name : Nm g.name
  low : 0 ≤ g.len
  high : g.len ≤ 30
structure WFP (x : Proc) : Prop where
  name : Nm x.name
  params : ∀ n ∈ x.params, Nm n
  few : x.params.length ≤ 10
  vars : ∀ n ∈ x.vars, Nm n
  room : x.vars.length ≤ 10 - x.params.length
  body : WFS 10 x.body
structure WFM (m : Mod) : Prop where
  name : Nm m.name
  imports : ∀ n ∈ m.imports, Nm n
  few : m.imports.length ≤ 6
  vars : ∀ g ∈ m.vars, WFG g
  fewv : m.vars.length ≤ 10
  procs : ∀ x ∈ m.procs, WFP x
  fewp : m.procs.length ≤ 10
  body : WFS 10 m.body
def namesK : List (List UInt8) → List (List UInt8)
  | [] => []
  | [n] => [n]
  | n :: m :: r => n :: [44] :: namesK (m :: r)
def starK (b : Bool) : List (List UInt8) := if b then [[42]] else []
def globK (g : Glob) : List (List UInt8) := [118, 97, 114] :: g.name :: (starK g.seen ++ [58] :: ((if 0 < g.len then [[97, 114, 114, 97, 121], Lib.itoa g.len] else [[105, 110, 116]]) ++ [[59]]))
/-- Names behind a word, if there are some. -/
def headK (s : List UInt8) (l : List (List UInt8)) : List (List UInt8) := if l = [] then [] else s :: (namesK l ++ [[59]])
def procK (x : Proc) : List (List UInt8) := [112, 114, 111, 99] :: x.name :: (starK x.seen ++ [40] :: (namesK x.params ++ [41] :: [59] :: (headK [118, 97, 114] x.vars ++ [98, 101, 103, 105, 110] :: (stmtK x.body ++ [[101, 110, 100], [59]]))))
def modK (m : Mod) : List (List UInt8) := [109, 111, 100, 117, 108, 101] :: m.name :: [59] :: (headK [105, 109, 112, 111, 114, 116] m.imports ++ (m.vars.flatMap globK ++ (m.procs.flatMap procK ++ [98, 101, 103, 105, 110] :: (stmtK m.body ++ [[101, 110, 100], [46]]))))
theorem namesK_len : ∀ (l : List (List UInt8)), l ≠ [] → (namesK l).length + 1 = 2 * l.length
  | [n], _ => rfl
  | n :: m :: r, _ => by have := namesK_len (m :: r) (by simp); simp only [namesK, List.length_cons] at *; omega
theorem namesK_le (l : List (List UInt8)) : (namesK l).length ≤ 2 * l.length := by
  cases l with
  | nil => simp [namesK]
  | cons n r => have := namesK_len (n :: r) (by simp); omega
theorem skip_cost {s : List UInt8} {ts : List Tok} (hg : Good ts) (hs : s ≠ []) : (starK (see s ts)).length + bytes (skip s ts) ≤ bytes ts ∧ Good (skip s ts) := by
  rw [skip]
  cases h : see s ts with
  | false => simp [starK, hg]
  | true =>
    have := see_cost hg h
    have : 1 ≤ s.length := by cases s with | nil => exact absurd rfl hs | cons _ _ => simp
    simp [starK]
    exact ⟨by omega, (see_cost hg h).2⟩
theorem kindOf_sp (z : Nat) : Sp (kindOf z) (fun n => 0 ≤ n ∧ n ≤ 30) (fun n => if 0 < n then 2 else 1) := by
  intro ts n r hg h
  rw [kindOf] at h
  split at h
  · rename_i hs
    have hc := see_cost hg hs
    cases hn : number z 30 ts.tail with
    | bad e q => simp only [hn] at h; cases h
    | ok n' r1 =>
      obtain ⟨a1, a2, a3⟩ := number_sp _ _ _ hc.2 hn
      replace a2 : 1 + bytes r1 ≤ bytes ts.tail := a2
      simp only [hn] at h
      split at h
      · cases h
      · cases h
        refine ⟨a1, ?_, a3⟩
        simp only [List.length_cons, List.length_nil] at hc
        show (if 0 < n then 2 else 1) + _ ≤ _
        split <;> omega
  · cases hm : must z [105, 110, 116] ts with
    | bad e q => simp only [hm] at h; cases h
    | ok u r1 =>
      have m1 := must_sp hg hm
      simp only [hm] at h
      cases h
      simp only [List.length_cons, List.length_nil] at m1
      exact ⟨⟨by omega, by omega⟩, by show 1 + _ ≤ _; omega, m1.2⟩
theorem glob_sp (z : Nat) : ∀ ts g r, Good ts → glob z ts = .ok g r → WFG g ∧ (globK g).length + bytes r ≤ bytes ts + 1 ∧ Good r := by
  intro ts g r hg h
  rw [glob] at h
  cases h1 : name z ts with
  | bad e q => simp only [h1] at h; cases h
  | ok n r1 =>
    obtain ⟨a1, a2, a3⟩ := name_sp _ _ _ hg h1
    replace a2 : 1 + bytes r1 ≤ bytes ts := a2
    simp only [h1] at h
    have hk := skip_cost (s := [42]) a3 (by simp)
    cases h2 : must z [58] (skip [42] r1) with
    | bad e q => simp only [h2] at h; cases h
    | ok u r2 =>
      have m1 := must_sp hk.2 h2
      simp only [h2] at h
      cases h3 : kindOf z r2 with
      | bad e q => simp only [h3] at h; cases h
      | ok k r3 =>
        obtain ⟨b1, b2, b3⟩ := kindOf_sp z _ _ _ m1.2 h3
        replace b2 : (if 0 < k then 2 else 1) + bytes r3 ≤ bytes r2 := b2
        simp only [h3] at h
        cases h4 : must z [59] r3 with
        | bad e q => simp only [h4] at h; cases h
        | ok u r4 =>
          have m2 := must_sp b3 h4
          simp only [h4] at h
          cases h
          refine ⟨⟨a1, b1.1, b1.2⟩, ?_, m2.2⟩
          have e1 : ((if 0 < k then [[97, 114, 114, 97, 121], Lib.itoa k] else [[105, 110, 116]]) : List (List UInt8)).length = if 0 < k then 2 else 1 := by split <;> rfl
          simp only [globK, List.length_cons, List.length_append, List.length_nil, e1] at *
          omega
theorem varsL_sp (z : Nat) : ∀ (f : Nat) (l : List Glob) (ts : List Tok) (a : List Glob) (r : List Tok), Good ts → (∀ g ∈ l, WFG g) → l.length ≤ 10 → varsL z f l ts = .ok a r → (∀ g ∈ a, WFG g) ∧ a.length ≤ 10 ∧ (a.flatMap globK).length + bytes r ≤ (l.flatMap globK).length + bytes ts ∧ Good r
  | 0, _, _, _, _, _, _, _, h => by cases h
  | f + 1, l, ts, a, r, hg, hl, hn, h => by
    rw [varsL] at h
    split at h
    · rename_i hs
      have hc := see_cost hg hs
      split at h
      · cases h
      · cases h1 : glob z ts.tail with
        | bad e q => simp only [h1] at h; cases h
        | ok g r1 =>
          obtain ⟨a1, a2, a3⟩ := glob_sp z _ _ _ hc.2 h1
          simp only [h1] at h
          obtain ⟨b1, b2, b3, b4⟩ := varsL_sp z f _ _ _ _ a3 (by
            intro x hx
            rcases List.mem_append.mp hx with hx | hx
            · exact hl x hx
            · simp at hx; subst hx; exact a1) (by simp; omega) h
          refine ⟨b1, b2, ?_, b4⟩
          simp only [List.flatMap_append, List.flatMap_cons, List.flatMap_nil, List.append_nil, List.length_append, List.length_cons, List.length_nil] at *
          omega
    · cases h; exact ⟨hl, hn, Nat.le_refl _, hg⟩
theorem params_sp (z : Nat) : ∀ ts l r, Good ts → params z ts = .ok l r → (∀ n ∈ l, Nm n) ∧ l.length ≤ 10 ∧ (namesK l).length + 1 + bytes r ≤ bytes ts ∧ Good r := by
  intro ts l r hg h
  rw [params] at h
  split at h
  · rename_i hs
    have hc := see_cost hg hs
    cases h
    simp only [List.length_cons, List.length_nil] at hc
    exact ⟨by simp, by simp, by simp [namesK]; omega, hc.2⟩
  · cases h1 : names z 10 ts with
    | bad e q => simp only [h1] at h; cases h
    | ok l' r1 =>
      obtain ⟨a1, a2, a3, a4, a5⟩ := names_sp hg h1
      simp only [h1] at h
      cases h2 : must z [41] r1 with
      | bad e q => simp only [h2] at h; cases h
      | ok u r2 =>
        have m1 := must_sp a5 h2
        simp only [h2] at h
        cases h
        have := namesK_len l a3
        simp only [List.length_cons, List.length_nil] at m1
        exact ⟨a1, a2, by omega, m1.2⟩
/-- Names behind a word, and a mark. -/
theorem head_sp {z most : Nat} {s : List UInt8} {ts : List Tok} {l : List (List UInt8)} {r : List Tok} (hs : s ≠ []) (hg : Good ts) (h : (if see s ts then match names z most ts.tail with
    | .bad e p => .bad e p
    | .ok l r => match must z [59] r with
      | .bad e p => .bad e p
      | .ok _ r2 => .ok l r2
  else R.ok [] ts) = .ok l r) : (∀ n ∈ l, Nm n) ∧ l.length ≤ most ∧ (headK s l).length + bytes r ≤ bytes ts ∧ Good r := by
  split at h
  · rename_i h0
    have hc := see_cost hg h0
    have hl : 1 ≤ s.length := by cases s with | nil => exact absurd rfl hs | cons _ _ => simp
    cases h1 : names z most ts.tail with
    | bad e q => simp only [h1] at h; cases h
    | ok l' r1 =>
      obtain ⟨a1, a2, a3, a4, a5⟩ := names_sp hc.2 h1
      simp only [h1] at h
      cases h2 : must z [59] r1 with
      | bad e q => simp only [h2] at h; cases h
      | ok u r2 =>
        have m1 := must_sp a5 h2
        simp only [h2] at h
        cases h
        have := namesK_len l a3
        refine ⟨a1, a2, ?_, m1.2⟩
        rw [headK, if_neg a3]
        simp only [List.length_cons, List.length_append, List.length_nil] at *
        omega
  · cases h; exact ⟨by simp, by simp, by simp [headK], hg⟩
theorem block_sp (z : Nat) {m : List UInt8} (hm : m.length = 1) : ∀ ts b r, Good ts → block z m ts = .ok b r → WFS 10 b ∧ (stmtK b).length + 3 + bytes r ≤ bytes ts ∧ Good r := by
  intro ts b r hg h
  rw [block] at h
  cases h1 : must z [98, 101, 103, 105, 110] ts with
  | bad e q => simp only [h1] at h; cases h
  | ok u r1 =>
    have m1 := must_sp hg h1
    simp only [h1] at h
    cases h2 : body0 z r1 with
    | bad e q => simp only [h2] at h; cases h
    | ok s r2 =>
      obtain ⟨a1, a2, a3⟩ := body0_sp z _ _ _ m1.2 h2
      replace a2 : (stmtK s).length + bytes r2 ≤ bytes r1 := a2
      simp only [h2] at h
      cases h3 : must z [101, 110, 100] r2 with
      | bad e q => simp only [h3] at h; cases h
      | ok u r3 =>
        have m2 := must_sp a3 h3
        simp only [h3] at h
        cases h4 : must z m r3 with
        | bad e q => simp only [h4] at h; cases h
        | ok u r4 =>
          have m3 := must_sp m2.2 h4
          simp only [h4] at h
          cases h
          simp only [List.length_cons, List.length_nil] at m1 m2 m3
          exact ⟨a1, by omega, m3.2⟩
theorem proc_sp (z : Nat) : ∀ ts x r, Good ts → proc z ts = .ok x r → WFP x ∧ (procK x).length + bytes r ≤ bytes ts ∧ Good r := by
  intro ts x r hg h
  rw [proc] at h
  cases h1 : must z [112, 114, 111, 99] ts with
  | bad e q => simp only [h1] at h; cases h
  | ok u r1 =>
    have m1 := must_sp hg h1
    simp only [h1] at h
    cases h2 : name z r1 with
    | bad e q => simp only [h2] at h; cases h
    | ok n r2 =>
      obtain ⟨a1, a2, a3⟩ := name_sp _ _ _ m1.2 h2
      replace a2 : 1 + bytes r2 ≤ bytes r1 := a2
      simp only [h2] at h
      have hk := skip_cost (s := [42]) a3 (by simp)
      cases h3 : must z [40] (skip [42] r2) with
      | bad e q => simp only [h3] at h; cases h
      | ok u r3 =>
        have m2 := must_sp hk.2 h3
        simp only [h3] at h
        cases h4 : params z r3 with
        | bad e q => simp only [h4] at h; cases h
        | ok ps r4 =>
          obtain ⟨b1, b2, b3, b4⟩ := params_sp z _ _ _ m2.2 h4
          simp only [h4] at h
          cases h5 : must z [59] r4 with
          | bad e q => simp only [h5] at h; cases h
          | ok u r5 =>
            have m3 := must_sp b4 h5
            simp only [h5] at h
            cases h6 : locals z (10 - ps.length) r5 with
            | bad e q => simp only [h6] at h; cases h
            | ok vs r6 =>
              obtain ⟨c1, c2, c3, c4⟩ := head_sp (s := [118, 97, 114]) (by simp) m3.2 h6
              simp only [h6] at h
              cases h7 : block z [59] r6 with
              | bad e q => simp only [h7] at h; cases h
              | ok b r7 =>
                obtain ⟨d1, d2, d3⟩ := block_sp z rfl _ _ _ c4 h7
                simp only [h7] at h
                cases h
                refine ⟨⟨a1, b1, b2, c1, c2, d1⟩, ?_, d3⟩
                simp only [procK, List.length_cons, List.length_append, List.length_nil] at *
                omega
theorem procsL_sp (z : Nat) : ∀ (f : Nat) (l : List Proc) (ts : List Tok) (a : List Proc) (r : List Tok), Good ts → (∀ g ∈ l, WFP g) → l.length ≤ 10 → procsL z f l ts = .ok a r → (∀ g ∈ a, WFP g) ∧ a.length ≤ 10 ∧ (a.flatMap procK).length + bytes r ≤ (l.flatMap procK).length + bytes ts ∧ Good r
  | 0, _, _, _, _, _, _, _, h => by cases h
  | f + 1, l, ts, a, r, hg, hl, hn, h => by
    rw [procsL] at h
    split at h
    · split at h
      · cases h
      · cases h1 : proc z ts with
        | bad e q => simp only [h1] at h; cases h
        | ok g r1 =>
          obtain ⟨a1, a2, a3⟩ := proc_sp z _ _ _ hg h1
          simp only [h1] at h
          obtain ⟨b1, b2, b3, b4⟩ := procsL_sp z f _ _ _ _ a3 (by
            intro x hx
            rcases List.mem_append.mp hx with hx | hx
            · exact hl x hx
            · simp at hx; subst hx; exact a1) (by simp; omega) h
          refine ⟨b1, b2, ?_, b4⟩
          simp only [List.flatMap_append, List.flatMap_cons, List.flatMap_nil, List.append_nil, List.length_append] at *
          omega
    · cases h; exact ⟨hl, hn, Nat.le_refl _, hg⟩
theorem module_sp (z : Nat) : ∀ ts m r, Good ts → module_ z ts = .ok m r → WFM m ∧ (modK m).length + bytes r ≤ bytes ts ∧ Good r := by
  intro ts m r hg h
  rw [module_] at h
  cases h1 : must z [109, 111, 100, 117, 108, 101] ts with
  | bad e q => simp only [h1] at h; cases h
  | ok u r1 =>
    have m1 := must_sp hg h1
    simp only [h1] at h
    cases h2 : name z r1 with
    | bad e q => simp only [h2] at h; cases h
    | ok n r2 =>
      obtain ⟨a1, a2, a3⟩ := name_sp _ _ _ m1.2 h2
      replace a2 : 1 + bytes r2 ≤ bytes r1 := a2
      simp only [h2] at h
      cases h3 : must z [59] r2 with
      | bad e q => simp only [h3] at h; cases h
      | ok u r3 =>
        have m2 := must_sp a3 h3
        simp only [h3] at h
        cases h4 : imports z r3 with
        | bad e q => simp only [h4] at h; cases h
        | ok is r4 =>
          obtain ⟨b1, b2, b3, b4⟩ := head_sp (s := [105, 109, 112, 111, 114, 116]) (by simp) m2.2 h4
          simp only [h4] at h
          cases h5 : varsL z 11 [] r4 with
          | bad e q => simp only [h5] at h; cases h
          | ok vs r5 =>
            obtain ⟨c1, c2, c3, c4⟩ := varsL_sp z _ _ _ _ _ b4 (by simp) (by simp) h5
            simp only [h5] at h
            cases h6 : procsL z 11 [] r5 with
            | bad e q => simp only [h6] at h; cases h
            | ok ps r6 =>
              obtain ⟨d1, d2, d3, d4⟩ := procsL_sp z _ _ _ _ _ c4 (by simp) (by simp) h6
              simp only [h6] at h
              cases h7 : block z [46] r6 with
              | bad e q => simp only [h7] at h; cases h
              | ok b r7 =>
                obtain ⟨e1, e2, e3⟩ := block_sp z rfl _ _ _ d4 h7
                simp only [h7] at h
                cases h
                refine ⟨⟨a1, b1, b2, c1, c2, d1, d2, e1⟩, ?_, e3⟩
                simp only [modK, List.length_cons, List.length_append, List.length_nil, List.flatMap_nil] at *
                omega
/-- Of a text that is a module: it is well formed, and has no more tokens than the text has bytes. -/
theorem parse_sp {l : List UInt8} {m : Mod} (h : parse l = .ok m) : WFM m ∧ (modK m).length ≤ l.length := by
  rw [parse] at h
  cases hl : lex l with
  | bad e p => simp only [hl] at h; cases h
  | ok ts =>
    have h1 := lexL_good _ _ _ _ _ hl
    simp only [hl] at h
    cases hm : module_ l.length ts with
    | bad e p => simp only [hm] at h; cases h
    | ok m' r =>
      obtain ⟨a1, a2, _⟩ := module_sp _ _ _ _ h1.1 hm
      simp only [hm] at h
      cases r with
      | nil => cases h; exact ⟨a1, by omega⟩
      | cons t r => cases h
end Go.Mq.Tree
