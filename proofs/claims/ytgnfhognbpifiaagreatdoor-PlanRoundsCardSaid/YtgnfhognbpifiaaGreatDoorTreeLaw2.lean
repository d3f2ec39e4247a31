/- What the parser tells is well formed, and has no more tokens than the text had bytes: expressions. Plain Lean. -/
import Derived.Test.YtgnfhognbpifiaaGreatDoorTreeLaw1
namespace Go.Mq.Tree
open Go Go.RowKit Go.Mq

/-- May be a name. -/
def Nm (n : List UInt8) : Prop := IsWord n ∧ kept n = false ∧ n.length ≤ 10
def Qm (m : List UInt8) : Prop := m = [] ∨ Nm m
def E.isX : E → Prop
  | .nil => False
  | .cons _ _ => False
  | _ => True
def E.isL : E → Prop
  | .nil => True
  | .cons _ _ => True
  | _ => False
/-- What the parser tells. -/
def WF : E → Prop
  | .num _ n => 0 ≤ n ∧ n ≤ 9223372036854775807
  | .var _ m n => Qm m ∧ Nm n
  | .item _ m n i => Qm m ∧ Nm n ∧ WF i ∧ i.isX
  | .un _ op x => (op = [45] ∨ op = [110, 111, 116]) ∧ WF x ∧ x.isX
  | .bin _ op x y => (∃ k, k < 5 ∧ op ∈ levels.getD (4 - k) []) ∧ (WF x ∧ x.isX) ∧ WF y ∧ y.isX
  | .app _ m n l => Qm m ∧ Nm n ∧ WF l ∧ l.isL
  | .nil => True
  | .cons x r => (WF x ∧ x.isX) ∧ WF r ∧ r.isL
/-- How deep, with its brackets, if it needs them. -/
def needW (lv : Nat) (x : E) (k : Nat) : Nat := if lv ≤ lvl x then k else k + 1
def need : E → Nat
  | .num _ _ => 1
  | .var _ _ _ => 1
  | .item _ _ _ i => need i + 1
  | .un _ _ x => needW 5 x (need x) + 1
  | .bin _ op x y => max (needW (opLevel op) x (need x)) (needW (opLevel op + 1) y (need y))
  | .app _ _ _ l => need l + 1
  | .nil => 0
  | .cons x r => max (need x) (need r)
/-- The texts of an expression's tokens. -/
def withinK (lv : Nat) (x : E) (K : List (List UInt8)) : List (List UInt8) := if lv ≤ lvl x then K else [40] :: (K ++ [[41]])
def qualK (m n : List UInt8) : List (List UInt8) := if m = [] then [n] else [m, [46], n]
def toks : E → List (List UInt8)
  | .num _ n => [Lib.itoa n]
  | .var _ m n => qualK m n
  | .item _ m n i => qualK m n ++ [91] :: (toks i ++ [[93]])
  | .un _ op x => op :: withinK 5 x (toks x)
  | .bin _ op x y => withinK (opLevel op) x (toks x) ++ op :: withinK (opLevel op + 1) y (toks y)
  | .app _ m n l => qualK m n ++ [40] :: (toks l ++ [[41]])
  | .nil => []
  | .cons x .nil => toks x
  | .cons x r => toks x ++ [44] :: toks r
/-- Tokens of a list, each with one more. -/
def E.cost : E → Nat
  | .cons x r => (toks x).length + 1 + r.cost
  | _ => 0

/-- Of good tokens: what comes, at what price. -/
def Sp {α : Type} (p : Ps α) (Q : α → Prop) (c : α → Nat) : Prop := ∀ ts a r, Good ts → p ts = .ok a r → Q a ∧ c a + bytes r ≤ bytes ts ∧ Good r

theorem bytes_cons (t : Tok) (r : List Tok) : bytes (t :: r) = t.text.length + bytes r := by simp [bytes]
theorem good_cons {t : Tok} {r : List Tok} (h : Good (t :: r)) : (IsTok t.text ∧ t.kind = kindT t.text) ∧ Good r := ⟨h t (by simp), fun x hx => h x (by simp [hx])⟩
theorem len_pos {t : List UInt8} (h : IsTok t) : 1 ≤ t.length := by
  cases t with
  | nil => exact absurd rfl (tok_ne h)
  | cons _ _ => simp
theorem see_cost {s : List UInt8} {ts : List Tok} (hg : Good ts) (h : see s ts = true) : s.length + bytes ts.tail = bytes ts ∧ Good ts.tail := by
  cases ts with
  | nil => simp [see] at h
  | cons t r =>
    have : t.text = s := by simpa [see] using h
    exact ⟨by rw [bytes_cons, this]; rfl, (good_cons hg).2⟩
theorem must_sp {z : Nat} {s : List UInt8} {ts : List Tok} {u : Unit} {r : List Tok} (hg : Good ts) (h : must z s ts = .ok u r) : s.length + bytes r = bytes ts ∧ Good r := by
  rw [must] at h
  split at h
  · rename_i hs; cases h; exact see_cost hg hs
  · cases h
theorem name_sp {z : Nat} : Sp (name z) Nm (fun _ => 1) := by
  intro ts n r hg h
  cases ts with
  | nil => cases h
  | cons t ts =>
    rw [name] at h
    split at h
    · cases h
    · rename_i h1
      split at h
      · cases h
      · rename_i h2
        cases h
        have hg := good_cons hg
        have hk : kindT t.text = .word := by rw [← hg.1.2]; exact Classical.not_not.mp fun h => h1 (.inl h)
        refine ⟨⟨?_, by simpa using fun h => h1 (.inr h), by omega⟩, by show 1 + _ ≤ _; rw [bytes_cons]; have := len_pos hg.1.1; omega, hg.2⟩
        rcases hg.1.1 with h | h | h
        · exact h
        · rw [kind_num h] at hk; cases hk
        · rw [kind_mark _ h] at hk; cases hk
theorem parseUintM_mono : ∀ (l : List UInt8) (M acc u : Nat), Lib.parseUintM M acc l = .ok u → acc ≤ M → u ≤ M
  | [], M, acc, u, h, ha => by cases h; exact ha
  | c :: r, M, acc, u, h, ha => by
    rw [Lib.parseUintM] at h
    split at h
    · split at h
      · cases h
      · split at h
        · cases h
        · exact parseUintM_mono r _ _ _ h (by omega)
    · cases h
theorem number_sp {z : Nat} {most : Int} : Sp (number z most) (fun n => 0 ≤ n ∧ n ≤ most) (fun _ => 1) := by
  intro ts n r hg h
  cases ts with
  | nil => cases h
  | cons t ts =>
    rw [number] at h
    split at h
    · cases h
    · rename_i h1
      have hg := good_cons hg
      have hk : kindT t.text = .number := by rw [← hg.1.2]; exact Classical.not_not.mp h1
      have hn : IsNum t.text := by
        rcases hg.1.1 with h | h | h
        · rw [kind_word h] at hk; cases hk
        · exact h
        · rw [kind_mark _ h] at hk; cases hk
      split at h
      · rename_i n' hp
        split at h
        · cases h
        · rename_i h2
          cases h
          refine ⟨⟨?_, by omega⟩, by show 1 + _ ≤ _; rw [bytes_cons]; have := len_pos hg.1.1; omega, hg.2⟩
          obtain ⟨c, r, hc, hd, _⟩ := hn
          rw [hc] at hp
          have hd := digit_val hd
          have e : (c.toNat = 45) = False := by simp; omega
          unfold Lib.parseIntB at hp
          simp only [e, not_false_eq_true, true_and, false_and, if_false] at hp
          split at hp
          · cases hp
          · cases hp
          · split at hp
            · cases hp
            · injection hp with hp; omega
      · cases h
theorem namesL_sp {z most : Nat} : ∀ (f : Nat) (l : List (List UInt8)) (ts : List Tok) (l' : List (List UInt8)) (r : List Tok), Good ts → (∀ n ∈ l, Nm n) → l.length ≤ most → namesL z most f l ts = .ok l' r →
    (∀ n ∈ l', Nm n) ∧ l'.length ≤ most ∧ l.length < l'.length ∧ 2 * l'.length + bytes r ≤ 2 * l.length + bytes ts + 1 ∧ Good r
  | 0, _, _, _, _, _, _, _, h => by cases h
  | f + 1, l, ts, l', r, hg, hl, hm, h => by
    rw [namesL] at h
    split at h
    · cases h
    · cases hn : name z ts with
      | bad e p => simp only [hn] at h; cases h
      | ok n r1 =>
        obtain ⟨h1, h2, h3⟩ := name_sp _ _ _ hg hn
        replace h2 : 1 + bytes r1 ≤ bytes ts := h2
        have hl2 : ∀ x ∈ l ++ [n], Nm x := by
          intro x hx
          rcases List.mem_append.mp hx with hx | hx
          · exact hl x hx
          · simp at hx; subst hx; exact h1
        simp only [hn] at h
        split at h
        · rename_i hs
          have hc := see_cost h3 hs
          have hr := namesL_sp f _ _ _ _ hc.2 hl2 (by simp; omega) h
          simp only [List.length_append, List.length_cons, List.length_nil] at hr hc
          exact ⟨hr.1, hr.2.1, by omega, by omega, hr.2.2.2.2⟩
        · cases h
          exact ⟨hl2, by simp; omega, by simp, by simp; omega, h3⟩
theorem names_sp {z most : Nat} {ts : List Tok} {l : List (List UInt8)} {r : List Tok} (hg : Good ts) (h : names z most ts = .ok l r) : (∀ n ∈ l, Nm n) ∧ l.length ≤ most ∧ l ≠ [] ∧ 2 * l.length + bytes r ≤ bytes ts + 1 ∧ Good r := by
  have := namesL_sp _ _ _ _ _ hg (by simp) (by simp) h
  simp only [List.length_nil] at this
  exact ⟨this.1, this.2.1, fun h => by rw [h] at this; simp at this, by omega, this.2.2.2.2⟩
theorem qual_sp {z : Nat} : Sp (qual z) (fun q => Qm q.1 ∧ Nm q.2) (fun q => (qualK q.1 q.2).length) := by
  intro ts q r hg h
  rw [qual] at h
  cases h1 : name z ts with
  | bad e p => simp only [h1] at h; cases h
  | ok n r1 =>
    obtain ⟨a1, a2, a3⟩ := name_sp _ _ _ hg h1
    replace a2 : 1 + bytes r1 ≤ bytes ts := a2
    simp only [h1] at h
    split at h
    · rename_i hs
      have hc := see_cost a3 hs
      cases h2 : name z r1.tail with
      | bad e p => simp only [h2] at h; cases h
      | ok n2 r2 =>
        obtain ⟨b1, b2, b3⟩ := name_sp _ _ _ hc.2 h2
        replace b2 : 1 + bytes r2 ≤ bytes r1.tail := b2
        simp only [h2] at h
        cases h
        refine ⟨⟨.inr a1, b1⟩, ?_, b3⟩
        have : (qualK n n2).length ≤ 3 := by rw [qualK]; split <;> simp
        simp only [List.length_cons, List.length_nil] at hc
        simp only
        omega
    · cases h
      exact ⟨⟨.inl rfl, a1⟩, by simp [qualK]; omega, a3⟩

theorem op_level : ∀ k < 5, ∀ op ∈ levels.getD (4 - k) [], opLevel op = 4 - k := by decide
theorem within_len (lv : Nat) (x : E) (K : List (List UInt8)) : (withinK lv x K).length ≤ K.length + 2 := by rw [withinK]; split <;> simp
theorem within_mono {a b : Nat} (h : a ≤ b) (x : E) (K : List (List UInt8)) : (withinK a x K).length ≤ (withinK b x K).length := by
  rw [withinK, withinK]; split <;> split <;> simp <;> omega
theorem needW_mono {a b : Nat} (h : a ≤ b) (x : E) (k : Nat) : needW a x k ≤ needW b x k := by
  rw [needW, needW]; split <;> split <;> omega
/-- An expression that may stand at a level, so deep. -/
def Fits (d lv : Nat) (x : E) : Prop := (WF x ∧ x.isX) ∧ needW lv x (need x) ≤ d
def costW (lv : Nat) (x : E) : Nat := (withinK lv x (toks x)).length
theorem op_cost {lv : List (List UInt8)} {ts : List Tok} {m : List UInt8} (hg : Good ts) (h : opOf lv ts = some m) : m ∈ lv ∧ 1 + bytes ts.tail ≤ bytes ts ∧ Good ts.tail := by
  have h1 := List.mem_of_find?_eq_some h
  have h2 := List.find?_some h
  have h3 := see_cost hg h2
  refine ⟨h1, ?_, h3.2⟩
  cases ts with
  | nil => simp [see] at h2
  | cons t r => rw [bytes_cons]; have := len_pos (good_cons hg).1.1; simp; omega
theorem binL_sp {sub : Ps E} {k d : Nat} (p : Nat) (hk : k < 5) (hs : Sp sub (Fits d (5 - k)) (costW (5 - k))) : ∀ (f : Nat) (x : E) (ts : List Tok) (a : E) (r : List Tok), Good ts → Fits d (4 - k) x → binL sub (levels.getD (4 - k) []) p f x ts = .ok a r →
    Fits d (4 - k) a ∧ costW (4 - k) a + bytes r ≤ costW (4 - k) x + bytes ts ∧ Good r
  | 0, _, _, _, _, _, _, h => by cases h
  | f + 1, x, ts, a, r, hg, hx, h => by
    rw [binL] at h
    split at h
    · cases h; exact ⟨hx, Nat.le_refl _, hg⟩
    · rename_i m hm
      obtain ⟨o1, o2, o3⟩ := op_cost hg hm
      cases hy : sub ts.tail with
      | bad e q => simp only [hy] at h; cases h
      | ok y r1 =>
        obtain ⟨y1, y2, y3⟩ := hs _ _ _ o3 hy
        simp only [hy] at h
        have hlv := op_level k hk m o1
        have e5 : 5 - k = 4 - k + 1 := by omega
        rw [e5] at y1 y2
        have hb : Fits d (4 - k) (.bin p m x y) := by
          refine ⟨⟨⟨⟨k, hk, o1⟩, hx.1, y1.1⟩, trivial⟩, ?_⟩
          have h1 := hx.2; have h2 := y1.2
          rw [needW, if_pos (by rw [lvl, hlv]; exact Nat.le_refl _), need, hlv]
          omega
        obtain ⟨b1, b2, b3⟩ := binL_sp p hk hs f _ _ _ _ y3 hb h
        have hc : costW (4 - k) (.bin p m x y) = costW (4 - k) x + 1 + costW (4 - k + 1) y := by
          rw [costW, withinK, if_pos (by rw [lvl, hlv]; exact Nat.le_refl _), toks, hlv, List.length_append, List.length_cons, costW, costW]; omega
        exact ⟨b1, by omega, b3⟩
theorem expr_sp {z d : Nat} {base : Ps E} (hb : Sp base (Fits d 5) (costW 5)) : ∀ (k : Nat), k ≤ 5 → Sp (expr z base k) (Fits d (5 - k)) (costW (5 - k))
  | 0, _ => hb
  | k + 1, hk => by
    intro ts a r hg h
    have ih := expr_sp (z := z) hb k (by omega)
    rw [expr] at h
    cases hx : expr z base k ts with
    | bad e q => simp only [hx] at h; cases h
    | ok x r1 =>
      obtain ⟨x1, x2, x3⟩ := ih _ _ _ hg hx
      simp only [hx] at h
      have e4 : 5 - (k + 1) = 4 - k := by omega
      rw [e4]
      have hx' : Fits d (4 - k) x := ⟨x1.1, Nat.le_trans (needW_mono (by omega) _ _) x1.2⟩
      obtain ⟨b1, b2, b3⟩ := binL_sp _ (by omega) ih _ _ _ _ _ x3 hx' h
      have : costW (4 - k) x ≤ costW (5 - k) x := within_mono (by omega) _ _
      exact ⟨b1, by omega, b3⟩
theorem ofList_isL : ∀ l, (E.ofList l).isL
  | [] => trivial
  | _ :: _ => trivial
theorem toks_cost : ∀ (x : E) (l : List E), (toks (E.ofList (x :: l))).length + 1 = (E.ofList (x :: l)).cost
  | x, [] => by simp [E.ofList, toks, E.cost]
  | x, y :: r => by
    have := toks_cost y r
    simp only [E.ofList] at this ⊢
    rw [toks, E.cost]
    · simp only [List.length_append, List.length_cons]; omega
    · intro h; cases h
theorem cost_append : ∀ (l : List E) (x : E), (E.ofList (l ++ [x])).cost = (E.ofList l).cost + (toks x).length + 1
  | [], x => by simp [E.ofList, E.cost]
  | y :: l, x => by simp only [List.cons_append, E.ofList, E.cost, cost_append l x]; omega
theorem args_sp {z d : Nat} {ex : Ps E} (he : Sp ex (Fits d 0) (costW 0)) : ∀ (f : Nat) (first : Bool) (l : List E) (ts : List Tok) (l' : List E) (r : List Tok), Good ts → (∀ x ∈ l, Fits d 0 x) → argsL z ex f first l ts = .ok l' r →
    (∀ x ∈ l', Fits d 0 x) ∧ ((l' = l ∧ 1 + bytes r = bytes ts) ∨ (l' ≠ [] ∧ (E.ofList l').cost + 1 + bytes r ≤ (E.ofList l).cost + bytes ts + (if first then 1 else 0))) ∧ Good r
  | 0, _, _, _, _, _, _, _, h => by cases h
  | f + 1, first, l, ts, l', r, hg, hl, h => by
    rw [argsL] at h
    split at h
    · rename_i hs
      cases h
      have := see_cost hg hs
      exact ⟨hl, .inl ⟨rfl, by simpa using this.1⟩, this.2⟩
    · split at h
      · cases h
      · rename_i h2
        have h3 : (Good (if first then ts else ts.tail)) ∧ bytes (if first then ts else ts.tail) + (if first then 0 else 1) = bytes ts := by
          cases first with
          | true => exact ⟨hg, rfl⟩
          | false =>
            have hs : see [44] ts = true := by simpa using h2
            have := see_cost hg hs
            exact ⟨this.2, by simp only [List.length_cons, List.length_nil] at this; simp; omega⟩
        cases hx : ex (if first then ts else ts.tail) with
        | bad e q => simp only [hx] at h; cases h
        | ok x r1 =>
          obtain ⟨x1, x2, x3⟩ := he _ _ _ h3.1 hx
          simp only [hx] at h
          have hl2 : ∀ y ∈ l ++ [x], Fits d 0 y := by
            intro y hy
            rcases List.mem_append.mp hy with hy | hy
            · exact hl y hy
            · simp at hy; subst hy; exact x1
          obtain ⟨b1, b2, b3⟩ := args_sp he f false _ _ _ _ x3 hl2 h
          have : costW 0 x = (toks x).length := by rw [costW, withinK, if_pos (Nat.zero_le _)]
          refine ⟨b1, .inr ?_, b3⟩
          have hca := cost_append l x
          rcases b2 with ⟨rfl, b2⟩ | ⟨n2, b2⟩
          · refine ⟨by simp, ?_⟩
            rw [hca]
            cases first <;> simp at * <;> omega
          · refine ⟨n2, ?_⟩
            rw [hca] at b2
            cases first <;> simp at * <;> omega
theorem list_fits {d : Nat} : ∀ l : List E, (∀ x ∈ l, Fits d 0 x) → WF (E.ofList l) ∧ need (E.ofList l) ≤ d
  | [], _ => ⟨trivial, Nat.zero_le _⟩
  | x :: l, h => by
    have h1 := h x (by simp)
    have h2 := list_fits l fun y hy => h y (by simp [hy])
    have h3 := h1.2
    rw [needW, if_pos (Nat.zero_le _)] at h3
    exact ⟨⟨h1.1, h2.1, ofList_isL l⟩, by rw [E.ofList, need]; omega⟩
theorem fits_top {d : Nat} {x : E} (h : WF x ∧ x.isX) (hl : lvl x = 5) (hn : need x ≤ d) : Fits d 5 x ∧ costW 5 x = (toks x).length := by
  refine ⟨⟨h, ?_⟩, ?_⟩
  · rw [needW, if_pos (by omega)]; exact hn
  · rw [costW, withinK, if_pos (by omega)]
theorem fits0 {d : Nat} {x : E} (h : Fits d 0 x) : need x ≤ d ∧ costW 0 x = (toks x).length := by
  have := h.2
  rw [needW, if_pos (Nat.zero_le _)] at this
  exact ⟨this, by rw [costW, withinK, if_pos (Nat.zero_le _)]⟩
theorem named_sp {z d : Nat} {ex : Ps E} (he : Sp ex (Fits d 0) (costW 0)) : Sp (named z ex) (Fits (d + 1) 5) (costW 5) := by
  intro ts a r hg h
  rw [named] at h
  cases hq : qual z ts with
  | bad e p => simp only [hq] at h; cases h
  | ok q r1 =>
    obtain ⟨q1, q2, q3⟩ := qual_sp _ _ _ hg hq
    replace q2 : (qualK q.1 q.2).length + bytes r1 ≤ bytes ts := q2
    simp only [hq] at h
    split at h
    · rename_i hs
      have hc := see_cost q3 hs
      cases hx : ex r1.tail with
      | bad e p => simp only [hx] at h; cases h
      | ok i r2 =>
        obtain ⟨x1, x2, x3⟩ := he _ _ _ hc.2 hx
        simp only [hx] at h
        cases hm : must z [93] r2 with
        | bad e p => simp only [hm] at h; cases h
        | ok u r3 =>
          have m1 := must_sp x3 hm
          simp only [hm] at h
          cases h
          have ⟨n1, c1⟩ := fits0 x1
          obtain ⟨f1, f2⟩ := fits_top (d := d + 1) (x := .item (hd z ts) q.1 q.2 i) ⟨⟨q1.1, q1.2, x1.1⟩, trivial⟩ rfl (by rw [need]; omega)
          refine ⟨f1, ?_, m1.2⟩
          rw [f2, toks]
          simp only [List.length_append, List.length_cons, List.length_nil] at *
          omega
    · split at h
      · rename_i hs
        have hc := see_cost q3 hs
        cases hx : argsL z ex (r1.length + 1) true [] r1.tail with
        | bad e p => simp only [hx] at h; cases h
        | ok l r2 =>
          obtain ⟨x1, x2, x3⟩ := args_sp he _ _ _ _ _ _ hc.2 (by simp) hx
          simp only [hx] at h
          cases h
          have ⟨n1, n2⟩ := list_fits l x1
          have n3 : (toks (E.ofList l)).length + 1 + bytes r ≤ bytes r1.tail := by
            rcases x2 with ⟨rfl, x2⟩ | ⟨x2, x3⟩
            · simp [E.ofList, toks]; omega
            · cases l with
              | nil => exact absurd rfl x2
              | cons y l => have := toks_cost y l; simp only [E.ofList, E.cost, if_true] at *; omega
          obtain ⟨f1, f2⟩ := fits_top (d := d + 1) (x := .app (hd z ts) q.1 q.2 (E.ofList l)) ⟨⟨q1.1, q1.2, n1, ofList_isL l⟩, trivial⟩ rfl (by rw [need]; omega)
          refine ⟨f1, ?_, x3⟩
          rw [f2, toks]
          simp only [List.length_append, List.length_cons, List.length_nil] at *
          omega
      · cases h
        obtain ⟨f1, f2⟩ := fits_top (d := d + 1) (x := .var (hd z ts) q.1 q.2) ⟨⟨q1.1, q1.2⟩, trivial⟩ rfl (by rw [need]; omega)
        exact ⟨f1, by rw [f2, toks]; exact q2, q3⟩
theorem one_sp (z : Nat) : ∀ d, Sp (one z d) (Fits d 5) (costW 5)
  | 0 => by intro ts a r _ h; cases h
  | d + 1 => by
    intro ts a r hg h
    have ih := one_sp z d
    have hex : Sp (expr z (one z d) 5) (Fits d 0) (costW 0) := expr_sp ih 5 (Nat.le_refl _)
    have un : ∀ (s : List UInt8), (s = [45] ∨ s = [110, 111, 116]) → see s ts = true → (match one z d ts.tail with | .bad e p => R.bad e p | .ok x r => .ok (.un (hd z ts) s x) r) = R.ok a r → Fits (d + 1) 5 a ∧ costW 5 a + bytes r ≤ bytes ts ∧ Good r := by
      intro s hs h1 h
      have hc := see_cost hg h1
      have hl : 1 ≤ s.length := by rcases hs with rfl | rfl <;> simp
      cases hx : one z d ts.tail with
      | bad e p => simp only [hx] at h; cases h
      | ok x r1 =>
        obtain ⟨x1, x2, x3⟩ := ih _ _ _ hc.2 hx
        simp only [hx] at h
        cases h
        obtain ⟨f1, f2⟩ := fits_top (d := d + 1) (x := .un (hd z ts) s x) ⟨⟨hs, x1.1⟩, trivial⟩ rfl (by rw [need]; have := x1.2; omega)
        refine ⟨f1, ?_, x3⟩
        rw [f2, toks, List.length_cons]
        rw [costW] at x2
        omega
    rw [one] at h
    dsimp only at h
    split at h
    · rename_i h1; exact un _ (.inl rfl) h1 h
    · split at h
      · rename_i h1; exact un _ (.inr rfl) h1 h
      · split at h
        · rename_i h1
          have hc := see_cost hg h1
          cases hx : expr z (one z d) 5 ts.tail with
          | bad e p => simp only [hx] at h; cases h
          | ok x r1 =>
            obtain ⟨x1, x2, x3⟩ := hex _ _ _ hc.2 hx
            simp only [hx] at h
            cases hm : must z [41] r1 with
            | bad e p => simp only [hm] at h; cases h
            | ok u r2 =>
              have m1 := must_sp x3 hm
              simp only [hm] at h
              cases h
              have ⟨n1, c1⟩ := fits0 x1
              refine ⟨⟨x1.1, ?_⟩, ?_, m1.2⟩
              · rw [needW]; split <;> omega
              · have := within_len 5 a (toks a)
                rw [costW]
                simp only [List.length_cons, List.length_nil] at *
                omega
        · cases ts with
          | nil => exact named_sp hex _ _ _ hg h
          | cons t ts =>
            simp only at h
            split at h
            · rename_i hk
              cases hn : number z 9223372036854775807 (t :: ts) with
              | bad e p => simp only [hn] at h; cases h
              | ok n r1 =>
                obtain ⟨a1, a2, a3⟩ := number_sp _ _ _ hg hn
                simp only [hn] at h
                cases h
                obtain ⟨f1, f2⟩ := fits_top (d := d + 1) (x := .num t.pos n) ⟨a1, trivial⟩ rfl (by rw [need]; omega)
                exact ⟨f1, by rw [f2, toks]; exact a2, a3⟩
            · exact named_sp hex _ _ _ hg h
theorem ex0_sp (z : Nat) : Sp (ex0 z) (Fits 11 0) (costW 0) := expr_sp (one_sp z 11) 5 (Nat.le_refl _)
end Go.Mq.Tree
