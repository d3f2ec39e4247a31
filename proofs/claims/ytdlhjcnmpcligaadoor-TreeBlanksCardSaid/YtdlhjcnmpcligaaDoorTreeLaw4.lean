/- What the parser tells of the tokens of an expression: the expression, at other places. Plain Lean. -/
import Derived.Test.YtdlhjcnmpcligaaDoorTreeLaw3
namespace Go.Mq.Tree
open Go Go.RowKit Go.Mq

/-- Without the places. -/
def E.strip : E → E
  | .num _ n => .num 0 n
  | .var _ m n => .var 0 m n
  | .item _ m n i => .item 0 m n i.strip
  | .un _ op x => .un 0 op x.strip
  | .bin _ op x y => .bin 0 op x.strip y.strip
  | .app _ m n l => .app 0 m n l.strip
  | .nil => .nil
  | .cons x r => .cons x.strip r.strip
/-- Tokens that begin with these texts; what is left. -/
def Beg : List (List UInt8) → List Tok → List Tok → Prop
  | [], ts, r => ts = r
  | s :: K, ts, r => ∃ p ts', ts = ⟨kindT s, s, p⟩ :: ts' ∧ Beg K ts' r
theorem beg_append : ∀ (K L : List (List UInt8)) {ts r : List Tok}, Beg (K ++ L) ts r → ∃ m, Beg K ts m ∧ Beg L m r
  | [], _, ts, _, h => ⟨ts, rfl, h⟩
  | _ :: K, L, _, _, h => by
    obtain ⟨p, ts', rfl, h⟩ := h
    obtain ⟨m, h1, h2⟩ := beg_append K L h
    exact ⟨m, ⟨p, ts', rfl, h1⟩, h2⟩
theorem beg_are : ∀ (K : List (List UInt8)) (ts : List Tok), Are ts K → Beg K ts []
  | [], ts, h => by
    have := h.1
    cases ts with
    | nil => rfl
    | cons _ _ => simp at this
  | s :: K, [], h => by have := h.1; simp at this
  | s :: K, t :: ts, h => by
    have h1 := h.1
    simp only [List.map_cons, List.cons.injEq] at h1
    have h2 := h.2 t (by simp)
    refine ⟨t.pos, ts, ?_, beg_are K ts ⟨h1.2, fun x hx => h.2 x (by simp [hx])⟩⟩
    obtain ⟨k, s', p⟩ := t
    simp only at h1 h2
    rw [h2, h1.1]
theorem beg_len : ∀ (K : List (List UInt8)) {ts r : List Tok}, Beg K ts r → ts.length = K.length + r.length
  | [], _, _, h => by rw [show _ = _ from h]; simp
  | _ :: K, _, _, h => by
    obtain ⟨p, ts', rfl, h⟩ := h
    have := beg_len K h
    simp only [List.length_cons]; omega

/-! ### Numbers -/
theorem dec_digits : ∀ u : Nat, (∀ x ∈ Lib.decDigits u, digit x = true) ∧ Lib.decDigits u ≠ [] := by
  intro u
  induction u using Nat.strongRecOn with
  | _ u ih =>
    have hd : ∀ v, v < 10 → digit (UInt8.ofNat (48 + v)) = true := by decide
    rw [Lib.decDigits]
    split
    · rename_i h; exact ⟨by simpa using hd u h, by simp⟩
    · refine ⟨?_, by simp⟩
      intro x hx
      rcases List.mem_append.mp hx with hx | hx
      · exact (ih (u / 10) (by omega)).1 x hx
      · rw [List.mem_singleton] at hx; subst hx; exact hd _ (by omega)
theorem num_append {M : Nat} : ∀ (l r : List UInt8) (acc a : Nat), Lib.parseUintM M acc l = .ok a → Lib.parseUintM M acc (l ++ r) = Lib.parseUintM M a r
  | [], r, acc, a, h => by cases h; rfl
  | c :: l, r, acc, a, h => by
    rw [List.cons_append, Lib.parseUintM]
    rw [Lib.parseUintM] at h
    split at h
    · rename_i h1
      rw [if_pos h1]
      split at h
      · cases h
      · rename_i h2
        rw [if_neg h2]
        split at h
        · cases h
        · rename_i h3
          rw [if_neg h3]
          exact num_append l r _ _ h
    · cases h
theorem dec_parse {M : Nat} (hM : M ≤ 18446744073709551615) : ∀ u : Nat, u ≤ M → Lib.parseUintM M 0 (Lib.decDigits u) = .ok u := by
  intro u
  induction u using Nat.strongRecOn with
  | _ u ih =>
    intro hu
    have one : ∀ acc v, v < 10 → acc * 10 + v ≤ M → Lib.parseUintM M acc [UInt8.ofNat (48 + v)] = .ok (acc * 10 + v) := by
      intro acc v hv ha
      have hn : (UInt8.ofNat (48 + v)).toNat = 48 + v := by rw [UInt8.toNat_ofNat']; omega
      rw [Lib.parseUintM, hn, if_pos (by omega), if_neg (by omega), if_neg (by omega), Lib.parseUintM]
      congr 1; omega
    rw [Lib.decDigits]
    split
    · rename_i h
      have := one 0 u h (by omega)
      simpa using this
    · rename_i h
      rw [num_append _ _ _ _ (ih (u / 10) (by omega) (by omega)), one _ _ (by omega) (by omega)]
      congr 1; omega
theorem itoa_num {n : Int} (h : 0 ≤ n) : IsNum (Lib.itoa n) := by
  rw [Lib.itoa, if_neg (by omega)]
  have := dec_digits n.toNat
  cases hd : Lib.decDigits n.toNat with
  | nil => exact absurd hd this.2
  | cons c r =>
    rw [hd] at this
    exact ⟨c, r, rfl, this.1 c (by simp), fun x hx => this.1 x (by simp [hx])⟩
theorem itoa_parse {n : Int} (h : 0 ≤ n) (h2 : n ≤ 9223372036854775807) : Lib.parseIntB 64 (Lib.itoa n) = .ok n := by
  obtain ⟨c, r, hc, hd, _⟩ := itoa_num h
  have hp : Lib.parseUintM 18446744073709551615 0 (Lib.itoa n) = .ok n.toNat := by
    rw [Lib.itoa, if_neg (by omega)]; exact dec_parse (Nat.le_refl _) _ (by omega)
  rw [hc] at hp ⊢
  have hd := digit_val hd
  have e : (c.toNat = 45) = False := by simp; omega
  have e2 : (c.toNat = 43) = False := by simp; omega
  unfold Lib.parseIntB
  simp only [e, e2, or_self, if_false, not_false_eq_true, true_and, false_and, Lib.parseUintB]
  rw [if_neg (by simp), show 2 ^ 64 - 1 = 18446744073709551615 from rfl, hp]
  simp only
  rw [if_neg (by omega)]
  congr 1; omega
theorem number_rt {z : Nat} {most n : Int} (h : 0 ≤ n) (h1 : n ≤ most) (h2 : n ≤ 9223372036854775807) {ts r : List Tok} (hb : Beg [Lib.itoa n] ts r) : number z most ts = .ok n r := by
  obtain ⟨p, ts', rfl, hb⟩ := hb
  cases hb
  rw [number]
  simp only [kind_num (itoa_num h), ne_eq, not_true_eq_false, if_false, itoa_parse h h2]
  rw [if_neg (by omega)]

/-! ### Names -/
theorem nm_kind {n : List UInt8} (h : Nm n) : kindT n = .word := kind_word h.1
/-- A name is no mark and no word that is kept. -/
theorem nm_ne {n s : List UInt8} (h : Nm n) (hs : kept s = true ∨ kindT s = .mark) : (n == s) = false := by
  rw [beq_eq_false_iff_ne]
  rintro rfl
  rcases hs with hs | hs
  · rw [h.2.1] at hs; cases hs
  · rw [nm_kind h] at hs; cases hs
theorem num_ne {n : Int} (h : 0 ≤ n) {s : List UInt8} (hs : kindT s ≠ .number) : (Lib.itoa n == s) = false := by
  rw [beq_eq_false_iff_ne]
  intro he
  rw [← he, kind_num (itoa_num h)] at hs
  exact hs rfl
theorem see_cons (s t : List UInt8) (k : Kind) (p : Nat) (r : List Tok) : see s (⟨k, t, p⟩ :: r) = (t == s) := rfl
theorem name_rt {z : Nat} {n : List UInt8} (h : Nm n) {ts r : List Tok} (hb : Beg [n] ts r) : name z ts = .ok n r := by
  obtain ⟨p, ts', rfl, hb⟩ := hb
  cases hb
  rw [name]
  simp only [nm_kind h, h.2.1, ne_eq, not_true_eq_false, Bool.false_eq_true, or_self, if_false]
  rw [if_neg (by have := h.2.2; omega)]
theorem must_rt {z : Nat} {s : List UInt8} {ts r : List Tok} (hb : Beg [s] ts r) : must z s ts = .ok () r := by
  obtain ⟨p, ts', rfl, hb⟩ := hb
  cases hb
  rw [must, see_cons, if_pos (beq_self_eq_true s)]; rfl
theorem see_beg {s : List UInt8} {K : List (List UInt8)} {ts r : List Tok} (hb : Beg (s :: K) ts r) (t : List UInt8) : see t ts = (s == t) ∧ Beg K ts.tail r := by
  obtain ⟨p, ts', rfl, hb⟩ := hb
  exact ⟨rfl, hb⟩
/-- What cannot lengthen an expression of the last k levels. -/
def Fol (k : Nat) (r : List Tok) : Prop := see [46] r = false ∧ see [91] r = false ∧ see [40] r = false ∧ ∀ j, j < k → opOf (levels.getD (4 - j) []) r = none
theorem fol_mono {a b : Nat} (h : a ≤ b) {r : List Tok} (hf : Fol b r) : Fol a r := ⟨hf.1, hf.2.1, hf.2.2.1, fun j hj => hf.2.2.2 j (by omega)⟩
theorem op_cons (l : List (List UInt8)) (k : Kind) (s : List UInt8) (p : Nat) (r : List Tok) : opOf l (⟨k, s, p⟩ :: r) = l.find? (fun m => s == m) := rfl
def stopsK : List (List UInt8) := [[93], [41], [44], [59], [116, 104, 101, 110], [100, 111], [58, 61]]
theorem stops_ok : ∀ s ∈ stopsK, (s == [46]) = false ∧ (s == [91]) = false ∧ (s == [40]) = false ∧ ∀ j < 5, (levels.getD (4 - j) []).find? (fun m => s == m) = none := by decide
theorem ops_ok : ∀ k < 5, ∀ op ∈ levels.getD (4 - k) [], (op == [46]) = false ∧ (op == [91]) = false ∧ (op == [40]) = false ∧ (∀ j < k, (levels.getD (4 - j) []).find? (fun m => op == m) = none) ∧ (levels.getD (4 - k) []).find? (fun m => op == m) = some op := by decide
theorem fol_stop {s : List UInt8} (hs : s ∈ stopsK) {K : List (List UInt8)} {ts r : List Tok} (hb : Beg (s :: K) ts r) : Fol 5 ts := by
  obtain ⟨p, ts', rfl, _⟩ := hb
  have := stops_ok s hs
  exact ⟨this.1, this.2.1, this.2.2.1, this.2.2.2⟩

/-! ### One expression -/
/-- These texts are that expression, where the last k levels are read. -/
def PX (z d k : Nat) (K : List (List UInt8)) (x : E) : Prop := ∀ ts r, Beg K ts r → Fol k r → ∃ x', x'.strip = x.strip ∧ expr z (one z d) k ts = .ok x' r
/-- .. and more may come of the level ahead. -/
def QX (z d k : Nat) (K : List (List UInt8)) (x : E) : Prop := ∀ ts r, Beg K ts r → Fol k r → ∃ x' f, x'.strip = x.strip ∧ r.length < f ∧ expr z (one z d) (k + 1) ts = binL (expr z (one z d) k) (levels.getD (4 - k) []) (hd z ts) f x' r
theorem px_q {z d k : Nat} {K : List (List UInt8)} {x : E} (h : PX z d k K x) : QX z d k K x := by
  intro ts r hb hf
  obtain ⟨x', h1, h2⟩ := h ts r hb hf
  exact ⟨x', r.length + 1, h1, Nat.lt_succ_self _, by simp only [expr, h2]⟩
theorem qx_p {z d k : Nat} {K : List (List UInt8)} {x : E} (h : QX z d k K x) : PX z d (k + 1) K x := by
  intro ts r hb hf
  obtain ⟨x', f, h1, h2, h3⟩ := h ts r hb (fol_mono (Nat.le_succ _) hf)
  refine ⟨x', h1, ?_⟩
  rw [h3]
  cases f with
  | zero => omega
  | succ f => rw [binL, hf.2.2.2 k (Nat.lt_succ_self _)]
theorem px_up {z d a : Nat} {K : List (List UInt8)} {x : E} (h : PX z d a K x) : ∀ b, a ≤ b → PX z d b K x := by
  intro b hb
  induction b with
  | zero => rw [Nat.le_zero.mp hb] at h; exact h
  | succ b ih =>
    rcases Nat.lt_or_ge a (b + 1) with h1 | h1
    · exact qx_p (px_q (ih (by omega)))
    · rw [show b + 1 = a by omega]; exact h
/-- What an expression's texts are, at every level. -/
def RT (z : Nat) (x : E) : Prop := (∀ d k, k ≤ 5 → needW (5 - k) x (need x) ≤ d → PX z d k (withinK (5 - k) x (toks x)) x) ∧ ∀ d k, k < 5 → needW (4 - k) x (need x) ≤ d → QX z d k (withinK (4 - k) x (toks x)) x
theorem bracket {z d : Nat} {K : List (List UInt8)} {x : E} (h : PX z d 5 K x) : PX z (d + 1) 0 ([40] :: (K ++ [[41]])) x := by
  intro ts r hb _
  obtain ⟨p, ts', rfl, hb⟩ := hb
  obtain ⟨m, h1, h2⟩ := beg_append _ _ hb
  obtain ⟨x', e1, e2⟩ := h _ _ h1 (fol_stop (by decide) h2)
  refine ⟨x', e1, ?_⟩
  rw [expr, one]
  simp only [see_cons, List.tail_cons]
  rw [if_neg (by decide), if_neg (by decide), if_pos (by decide), e2]
  simp only [must_rt h2]
theorem rt_of {z : Nat} {x : E} (h : (∃ k, k < 5 ∧ lvl x = 4 - k ∧ ∀ d, need x ≤ d → QX z d k (toks x) x) ∨ (lvl x = 5 ∧ ∀ d, need x ≤ d → PX z d 0 (toks x) x)) : RT z x := by
  -- not bracketed, at any level that allows it
  have plain : ∀ d k, k ≤ 5 → 5 - k ≤ lvl x → need x ≤ d → PX z d k (toks x) x := by
    intro d k hk hl hd
    rcases h with ⟨j, hj, h1, h2⟩ | ⟨h1, h2⟩
    · exact px_up (qx_p (h2 d hd)) k (by omega)
    · exact px_up (h2 d hd) k (Nat.zero_le _)
  have all : ∀ d k, k ≤ 5 → ∀ lv, (lv ≤ lvl x → 5 - k ≤ lvl x) → needW lv x (need x) ≤ d → PX z d k (withinK lv x (toks x)) x := by
    intro d k hk lv hl hd
    rw [needW] at hd
    rw [withinK]
    split at hd
    · rename_i h1
      rw [if_pos h1]
      exact plain d k hk (hl h1) hd
    · rename_i h1
      rw [if_neg h1]
      cases d with
      | zero => omega
      | succ d => exact px_up (bracket (plain d 5 (Nat.le_refl _) (Nat.zero_le _) (by omega))) k (Nat.zero_le _)
  refine ⟨fun d k hk hd => all d k hk _ id hd, ?_⟩
  intro d k hk hd
  by_cases hl : lvl x = 4 - k
  · rcases h with ⟨j, hj, h1, h2⟩ | ⟨h1, h2⟩
    · have : j = k := by omega
      subst this
      rw [needW, if_pos (by omega)] at hd
      rw [withinK, if_pos (by omega)]
      exact h2 d hd
    · omega
  · exact px_q (all d k (by omega) _ (by omega) hd)
theorem rt0 {z d : Nat} {x : E} (h : RT z x) (hd : need x ≤ d) : PX z d 5 (toks x) x := by
  have := h.1 d 5 (Nat.le_refl _) (by rw [needW, if_pos (Nat.zero_le _)]; exact hd)
  rwa [withinK, if_pos (Nat.zero_le _)] at this
theorem op_mem {k : Nat} (hk : k < 5) {op : List UInt8} (ho : op ∈ levels.getD (4 - k) []) {K : List (List UInt8)} {ts r : List Tok} (hb : Beg (op :: K) ts r) : Fol k ts ∧ opOf (levels.getD (4 - k) []) ts = some op ∧ Beg K ts.tail r := by
  obtain ⟨p, ts', rfl, hb⟩ := hb
  have := ops_ok k hk op ho
  exact ⟨⟨this.1, this.2.1, this.2.2.1, this.2.2.2.1⟩, this.2.2.2.2, hb⟩
theorem bin_rt {z : Nat} {p : Nat} {op : List UInt8} {x y : E} (ho : ∃ k, k < 5 ∧ op ∈ levels.getD (4 - k) []) (hx : RT z x) (hy : RT z y) : RT z (.bin p op x y) := by
  obtain ⟨k, hk, ho⟩ := ho
  have hl := op_level k hk op ho
  refine rt_of (.inl ⟨k, hk, hl, ?_⟩)
  intro d hn ts r hb hf
  rw [need, hl] at hn
  rw [toks, hl] at hb
  obtain ⟨m, h1, h2⟩ := beg_append _ _ hb
  obtain ⟨f1, f2, f3⟩ := op_mem hk ho h2
  obtain ⟨x', f, e1, e2, e3⟩ := hx.2 d k hk (by omega) _ _ h1 f1
  have hl2 := beg_len _ h2
  have e5 : 4 - k + 1 = 5 - k := by omega
  rw [e5] at hn f3
  obtain ⟨y', g1, g2⟩ := hy.1 d k (by omega) (by omega) _ _ f3 hf
  simp only [List.length_cons] at hl2
  cases f with
  | zero => omega
  | succ f =>
    refine ⟨.bin (hd z ts) op x' y', f, by simp only [E.strip, e1, g1], by omega, ?_⟩
    rw [e3, binL, f2]
    simp only [g2]
/-- What a name begins. -/
theorem qual_rt {z : Nat} {m n : List UInt8} (hm : Qm m) (hn : Nm n) {ts r : List Tok} (hb : Beg (qualK m n) ts r) (hf : see [46] r = false) : qual z ts = .ok (m, n) r := by
  rw [qualK] at hb
  rw [qual]
  split at hb
  · rename_i h; subst h
    rw [name_rt hn hb]
    simp only [hf, Bool.false_eq_true, if_false]
  · rename_i h
    have hm : Nm m := hm.resolve_left h
    obtain ⟨a, h1, h2⟩ := beg_append [m] [[46], n] hb
    have h3 := see_beg h2 [46]
    rw [name_rt hm h1]
    simp only
    rw [if_pos (by rw [h3.1]; decide), name_rt hn h3.2]
/-- A named expression, in which others may lie so deep. -/
def NX (z d : Nat) (x : E) : Prop := ∀ ts r, Beg (toks x) ts r → Fol 0 r → ∃ x', x'.strip = x.strip ∧ named z (expr z (one z d) 5) ts = .ok x' r
/-- The texts of a list whose first has a comma ahead. -/
def sepK : E → List (List UInt8)
  | .cons x r => [44] :: (toks x ++ sepK r)
  | _ => []
theorem toks_sep : ∀ (r x : E), WF (.cons x r) → toks (.cons x r) = toks x ++ sepK r
  | .nil, x, _ => by simp [toks, sepK]
  | .cons y r, x, h => by
    rw [toks, sepK, toks_sep r y h.2.1]
    intro h; cases h
  | .num _ _, _, h => h.2.2.elim
  | .var _ _ _, _, h => h.2.2.elim
  | .item _ _ _ _, _, h => h.2.2.elim
  | .un _ _ _, _, h => h.2.2.elim
  | .bin _ _ _ _, _, h => h.2.2.elim
  | .app _ _ _ _, _, h => h.2.2.elim
/-- Arguments: those behind which a bracket closes. -/
def AX (z d : Nat) (l : E) : Prop := ∀ first acc f ts r, Beg ((if first then toks l else sepK l) ++ [[41]]) ts r → ts.length < f → ∃ l', (E.ofList l').strip = l.strip ∧ argsL z (expr z (one z d) 5) f first acc ts = .ok (acc ++ l') r
theorem var_rt {z d p : Nat} {m n : List UInt8} (hm : Qm m) (hn : Nm n) : NX z d (.var p m n) := by
  intro ts r hb hf
  rw [toks] at hb
  refine ⟨.var (hd z ts) m n, rfl, ?_⟩
  rw [named, qual_rt hm hn hb hf.1]
  simp only [hf.2.1, hf.2.2.1, Bool.false_eq_true, if_false]
theorem item_rt {z d p : Nat} {m n : List UInt8} {i : E} (hm : Qm m) (hn : Nm n) (hi : RT z i) (hd : need i ≤ d) : NX z d (.item p m n i) := by
  intro ts r hb hf
  rw [toks] at hb
  obtain ⟨a, h1, h2⟩ := beg_append _ _ hb
  have h3 := see_beg h2
  obtain ⟨b, h4, h5⟩ := beg_append _ _ (h3 []).2
  obtain ⟨i', e1, e2⟩ := rt0 hi hd _ _ h4 (fol_stop (by decide) h5)
  refine ⟨.item (Tree.hd z ts) m n i', by simp only [E.strip, e1], ?_⟩
  rw [named, qual_rt hm hn h1 (by rw [(h3 _).1]; decide)]
  simp only
  rw [if_pos (by rw [(h3 _).1]; decide), e2]
  simp only [must_rt h5]
theorem app_rt {z d p : Nat} {m n : List UInt8} {l : E} (hm : Qm m) (hn : Nm n) (hl : AX z d l) : NX z d (.app p m n l) := by
  intro ts r hb hf
  rw [toks] at hb
  obtain ⟨a, h1, h2⟩ := beg_append _ _ hb
  have h3 := see_beg h2
  have hlen : a.tail.length < a.length + 1 := by simp; omega
  obtain ⟨l', e1, e2⟩ := hl true [] (a.length + 1) _ _ (h3 []).2 hlen
  refine ⟨.app (Tree.hd z ts) m n (E.ofList l'), by simp only [E.strip, e1], ?_⟩
  rw [named, qual_rt hm hn h1 (by rw [(h3 _).1]; decide)]
  simp only
  rw [if_neg (by rw [(h3 _).1]; decide), if_pos (by rw [(h3 _).1]; decide), e2]
  rfl
/-- What an expression's first text is. -/
def HeadE (s : List UInt8) : Prop := s = [45] ∨ s = [110, 111, 116] ∨ s = [40] ∨ kindT s = .number ∨ Nm s
theorem head_qual {m n : List UInt8} (hm : Qm m) (hn : Nm n) (K : List (List UInt8)) : ∃ s L, qualK m n ++ K = s :: L ∧ Nm s := by
  rw [qualK]
  split
  · exact ⟨n, K, rfl, hn⟩
  · rename_i h; exact ⟨m, _, rfl, hm.resolve_left h⟩
theorem head_within {lv : Nat} {x : E} (h : ∃ s L, toks x = s :: L ∧ HeadE s) : ∃ s L, withinK lv x (toks x) = s :: L ∧ HeadE s := by
  rw [withinK]
  split
  · exact h
  · exact ⟨_, _, rfl, .inr (.inr (.inl rfl))⟩
theorem head_toks : ∀ (x : E), WF x → x.isX → ∃ s L, toks x = s :: L ∧ HeadE s
  | .num _ n, h, _ => ⟨_, _, rfl, .inr (.inr (.inr (.inl (kind_num (itoa_num h.1)))))⟩
  | .var _ m n, h, _ => by
    obtain ⟨s, L, h1, h2⟩ := head_qual h.1 h.2 []
    exact ⟨s, L, by rw [toks, ← h1, List.append_nil], .inr (.inr (.inr (.inr h2)))⟩
  | .item _ m n i, h, _ => by
    obtain ⟨s, L, h1, h2⟩ := head_qual h.1 h.2.1 ([91] :: (toks i ++ [[93]]))
    exact ⟨s, L, by rw [toks, h1], .inr (.inr (.inr (.inr h2)))⟩
  | .un _ op x, h, _ => ⟨op, _, rfl, h.1.elim .inl fun h => .inr (.inl h)⟩
  | .bin _ op x y, h, _ => by
    obtain ⟨s, L, h1, h2⟩ := head_within (lv := opLevel op) (head_toks x h.2.1.1 h.2.1.2)
    exact ⟨s, _, by rw [toks, h1]; rfl, h2⟩
  | .app _ m n l, h, _ => by
    obtain ⟨s, L, h1, h2⟩ := head_qual h.1 h.2.1 ([40] :: (toks l ++ [[41]]))
    exact ⟨s, L, by rw [toks, h1], .inr (.inr (.inr (.inr h2)))⟩
  | .nil, _, h => h.elim
  | .cons _ _, _, h => h.elim
/-- What an expression does not begin with. -/
theorem head_ne {s : List UInt8} (h : HeadE s) {t : List UInt8} (ht : (kept t = true ∨ kindT t = .mark) ∧ kindT t ≠ .number ∧ t ≠ [45] ∧ t ≠ [110, 111, 116] ∧ t ≠ [40]) : (s == t) = false := by
  rcases h with h | h | h | h | h
  · subst h; rw [beq_eq_false_iff_ne]; exact fun e => ht.2.2.1 e.symm
  · subst h; rw [beq_eq_false_iff_ne]; exact fun e => ht.2.2.2.1 e.symm
  · subst h; rw [beq_eq_false_iff_ne]; exact fun e => ht.2.2.2.2 e.symm
  · rw [beq_eq_false_iff_ne]; rintro rfl; exact ht.2.1 h
  · exact nm_ne h ht.1
theorem args_nil {z d : Nat} : AX z d .nil := by
  intro first acc f ts r hb hf
  have hb : Beg [[41]] ts r := by cases first <;> exact hb
  cases f with
  | zero => omega
  | succ f =>
    have h := see_beg hb
    refine ⟨[], rfl, ?_⟩
    rw [argsL, if_pos (by rw [(h _).1]; decide), List.append_nil]
    have h2 : ts.tail = r := (h []).2
    rw [h2]
theorem args_cons {z d : Nat} {x l : E} (hc : WF (.cons x l)) (hx : RT z x) (hd : need x ≤ d) (hr : AX z d l) : AX z d (.cons x l) := by
  intro first acc f ts r hb hf
  have hw := hc.1
  have hl := hc.2.2
  obtain ⟨s, L, hs, hh⟩ := head_toks x hw.1 hw.2
  cases f with
  | zero => omega
  | succ f =>
    -- what stands ahead of the expression
    have pre : see [41] ts = false ∧ (first = false → see [44] ts = true) ∧ Beg (toks x ++ (sepK l ++ [[41]])) (if first then ts else ts.tail) r ∧ (if first then ts else ts.tail).length ≤ ts.length := by
      cases first with
      | true =>
        simp only [if_true, toks_sep l x hc, List.append_assoc] at hb ⊢
        refine ⟨?_, by simp, hb, Nat.le_refl _⟩
        rw [hs] at hb
        rw [(see_beg hb _).1]
        exact head_ne hh (by decide)
      | false =>
        simp only [Bool.false_eq_true, if_false, sepK, List.cons_append, List.append_assoc] at hb ⊢
        refine ⟨by rw [(see_beg hb _).1]; decide, fun _ => by rw [(see_beg hb _).1]; decide, (see_beg hb []).2, by simp⟩
    obtain ⟨p1, p2, p3, p4⟩ := pre
    obtain ⟨m, h1, h2⟩ := beg_append _ _ p3
    have hf2 : Fol 5 m := by
      cases l with
      | nil => exact fol_stop (s := [41]) (by decide) h2
      | cons y l => exact fol_stop (s := [44]) (by decide) h2
      | _ => exact hl.elim
    obtain ⟨x', e1, e2⟩ := rt0 hx hd _ _ h1 hf2
    have hlen := beg_len _ h1
    obtain ⟨l', g1, g2⟩ := hr false (acc ++ [x']) f m r (by simpa using h2) (by rw [hs] at hlen; simp only [List.length_cons] at hlen; omega)
    refine ⟨x' :: l', by simp only [E.ofList, E.strip, e1, g1], ?_⟩
    rw [argsL, if_neg (by rw [p1]; decide), if_neg (by rintro ⟨q1, q2⟩; rw [p2 q1] at q2; cases q2), e2]
    simp only [g2, List.append_assoc, List.cons_append, List.nil_append]
theorem top_rt {z : Nat} {x : E} (hl : lvl x = 5) (h : ∀ d ts r, need x ≤ d + 1 → Beg (toks x) ts r → Fol 0 r → ∃ x', x'.strip = x.strip ∧ one z (d + 1) ts = .ok x' r) (hn : 1 ≤ need x) : RT z x := by
  refine rt_of (.inr ⟨hl, ?_⟩)
  intro d hd ts r hb hf
  cases d with
  | zero => omega
  | succ d => exact h d ts r hd hb hf
/-- A name is read so. -/
theorem one_named {z d : Nat} {s : List UInt8} (hs : Nm s) {K : List (List UInt8)} {ts r : List Tok} (hb : Beg (s :: K) ts r) : one z (d + 1) ts = named z (expr z (one z d) 5) ts := by
  obtain ⟨p, ts', rfl, _⟩ := hb
  rw [one]
  simp only [see_cons, nm_ne hs (s := [45]) (by decide), nm_ne hs (s := [110, 111, 116]) (by decide), nm_ne hs (s := [40]) (by decide), Bool.false_eq_true, if_false, nm_kind hs]
  rfl
theorem rt_all (z : Nat) : ∀ x : E, WF x → (x.isX → RT z x) ∧ (x.isL → ∀ d, need x ≤ d → AX z d x)
  | .num q n, h => by
    refine ⟨fun _ => top_rt rfl ?_ (by simp [need]), fun h => h.elim⟩
    intro d ts r _ hb _
    rw [toks] at hb
    have hn := number_rt (z := z) h.1 h.2 h.2 hb
    obtain ⟨p, ts', rfl, hb⟩ := hb
    rw [kind_num (itoa_num h.1)] at hn ⊢
    refine ⟨.num p n, rfl, ?_⟩
    rw [one]
    simp only [see_cons, num_ne h.1 (s := [45]) (by decide), num_ne h.1 (s := [110, 111, 116]) (by decide), num_ne h.1 (s := [40]) (by decide), Bool.false_eq_true, if_false, if_true, hn]
  | .var q m n, h => by
    refine ⟨fun _ => top_rt rfl ?_ (by simp [need]), fun h => h.elim⟩
    intro d ts r _ hb hf
    obtain ⟨s, L, h1, h2⟩ := head_qual h.1 h.2 []
    rw [List.append_nil] at h1
    rw [one_named h2 (by rw [← h1]; exact hb)]
    exact var_rt h.1 h.2 ts r hb hf
  | .item q m n i, h => by
    have ih := (rt_all z i h.2.2.1).1 h.2.2.2
    refine ⟨fun _ => top_rt rfl ?_ (by simp [need]), fun h => h.elim⟩
    intro d ts r hd hb hf
    obtain ⟨s, L, h1, h2⟩ := head_qual h.1 h.2.1 ([91] :: (toks i ++ [[93]]))
    rw [one_named h2 (by rw [← h1]; exact hb)]
    rw [need] at hd
    exact item_rt h.1 h.2.1 ih (by omega) ts r hb hf
  | .app q m n l, h => by
    have ih := (rt_all z l h.2.2.1).2 h.2.2.2
    refine ⟨fun _ => top_rt rfl ?_ (by simp [need]), fun h => h.elim⟩
    intro d ts r hd hb hf
    obtain ⟨s, L, h1, h2⟩ := head_qual h.1 h.2.1 ([40] :: (toks l ++ [[41]]))
    rw [one_named h2 (by rw [← h1]; exact hb)]
    rw [need] at hd
    exact app_rt h.1 h.2.1 (ih d (by omega)) ts r hb hf
  | .un q op x, h => by
    have ih := (rt_all z x h.2.1).1 h.2.2
    refine ⟨fun _ => top_rt rfl ?_ (by simp [need]), fun h => h.elim⟩
    intro d ts r hn hb hf
    rw [need] at hn
    rw [toks] at hb
    have hs := see_beg hb
    obtain ⟨x', e1, e2⟩ := ih.1 d 0 (by omega) (by show needW 5 x (need x) ≤ d; omega) _ _ (hs []).2 hf
    rw [expr] at e2
    refine ⟨.un (hd z ts) op x', by simp only [E.strip, e1], ?_⟩
    rw [one]
    simp only
    rcases h.1 with rfl | rfl
    · rw [if_pos (by rw [(hs _).1]; decide), e2]
    · rw [if_neg (by rw [(hs _).1]; decide), if_pos (by rw [(hs _).1]; decide), e2]
  | .bin q op x y, h => ⟨fun _ => bin_rt h.1 ((rt_all z x h.2.1.1).1 h.2.1.2) ((rt_all z y h.2.2.1).1 h.2.2.2), fun h => h.elim⟩
  | .nil, _ => ⟨fun h => h.elim, fun _ _ _ => args_nil⟩
  | .cons x l, h => by
    have ihx := (rt_all z x h.1.1).1 h.1.2
    have ihl := (rt_all z l h.2.1).2 h.2.2
    refine ⟨fun h => h.elim, fun _ d hd => ?_⟩
    rw [need] at hd
    exact args_cons h ihx (by omega) (ihl d (by omega))
theorem fits_rt {z d : Nat} {x : E} (h : Fits d 0 x) {ts r : List Tok} (hb : Beg (toks x) ts r) (hf : Fol 5 r) : ∃ x', x'.strip = x.strip ∧ expr z (one z d) 5 ts = .ok x' r :=
  rt0 ((rt_all z x h.1.1).1 h.1.2) (fits0 h).1 ts r hb hf
end Go.Mq.Tree
