/- What the parser tells of the tokens of statements and of a module: these, at other places. Plain Lean. -/
import Derived.Test.YtdlhjcnmpcligaaDoorTreeLaw4
namespace Go.Mq.Tree
open Go Go.RowKit Go.Mq

def S.strip : S → S
  | .nil => .nil
  | .set _ n i v r => .set 0 n (i.map E.strip) v.strip r.strip
  | .ifs _ v t e r => .ifs 0 v.strip t.strip e.strip r.strip
  | .whil _ v t r => .whil 0 v.strip t.strip r.strip
  | .ret _ v r => .ret 0 v.strip r.strip
  | .wri _ v r => .wri 0 v.strip r.strip
  | .call _ v r => .call 0 v.strip r.strip
theorem strip_app : ∀ (a b : S), (a.app b).strip = a.strip.app b.strip
  | .nil, _ => rfl
  | .set _ _ _ _ r, b => by simp [S.app, S.strip, strip_app r b]
  | .ifs _ _ _ _ r, b => by simp [S.app, S.strip, strip_app r b]
  | .whil _ _ _ r, b => by simp [S.app, S.strip, strip_app r b]
  | .ret _ _ r, b => by simp [S.app, S.strip, strip_app r b]
  | .wri _ _ r, b => by simp [S.app, S.strip, strip_app r b]
  | .call _ _ r, b => by simp [S.app, S.strip, strip_app r b]
theorem app_assoc : ∀ (a b c : S), (a.app b).app c = a.app (b.app c)
  | .nil, _, _ => rfl
  | .set _ _ _ _ r, b, c => by simp [S.app, app_assoc r b c]
  | .ifs _ _ _ _ r, b, c => by simp [S.app, app_assoc r b c]
  | .whil _ _ _ r, b, c => by simp [S.app, app_assoc r b c]
  | .ret _ _ r, b, c => by simp [S.app, app_assoc r b c]
  | .wri _ _ r, b, c => by simp [S.app, app_assoc r b c]
  | .call _ _ r, b, c => by simp [S.app, app_assoc r b c]
theorem strip_nil {s : S} : s.strip.isNil = s.isNil := by cases s <;> rfl
theorem strip_var {x : E} {p : Nat} {m n : List UInt8} (h : x.strip = (E.var p m n).strip) : ∃ q, x = .var q m n := by
  cases x <;> simp only [E.strip, E.var.injEq, reduceCtorEq, true_and] at h
  obtain ⟨rfl, rfl⟩ := h; exact ⟨_, rfl⟩
theorem strip_item {x : E} {p : Nat} {m n : List UInt8} {i : E} (h : x.strip = (E.item p m n i).strip) : ∃ q i', x = .item q m n i' ∧ i'.strip = i.strip := by
  cases x <;> simp only [E.strip, E.item.injEq, reduceCtorEq, true_and] at h
  obtain ⟨rfl, rfl, h⟩ := h; exact ⟨_, _, rfl, h⟩
theorem strip_call {x : E} {p : Nat} {m n : List UInt8} {l : E} (h : x.strip = (E.app p m n l).strip) : ∃ q l', x = .app q m n l' := by
  cases x <;> simp only [E.strip, E.app.injEq, reduceCtorEq, true_and] at h
  obtain ⟨rfl, rfl, h⟩ := h; exact ⟨_, _, rfl⟩

/-- A body stops there. -/
def Stop (r : List Tok) : Prop := (see [101, 110, 100] r || see [101, 108, 115, 101] r || see [101, 108, 115, 105, 102] r) = true
/-- A statement in whose bodies so many more may lie. -/
def st (z d : Nat) : Ps S := stmt z (bodies z d).1 (restL z (bodies z d).1 (bodies z d).2)
def BX (z d : Nat) (s : S) : Prop := ∀ r, Stop r → ∀ f acc ts, Beg (stmtK s) ts r → ts.length < f → ∃ s', s'.strip = s.strip ∧ bodyL z (st z d) f acc ts = .ok (acc.app s') r
theorem stop_beg {s : List UInt8} (hs : s = [101, 110, 100] ∨ s = [101, 108, 115, 101]) {K : List (List UInt8)} {ts r : List Tok} (hb : Beg (s :: K) ts r) : Stop ts := by
  rw [Stop, (see_beg hb _).1, (see_beg hb _).1, (see_beg hb _).1]
  rcases hs with rfl | rfl <;> decide
theorem body_rt {z d : Nat} {s : S} (h : BX z d s) {ts r : List Tok} (hb : Beg (stmtK s) ts r) (hs : Stop r) : ∃ s', s'.strip = s.strip ∧ (bodies z (d + 1)).1 ts = .ok s' r := by
  obtain ⟨s', h1, h2⟩ := h r hs (ts.length + 1) .nil ts hb (Nat.lt_succ_self _)
  exact ⟨s', h1, h2⟩
theorem body_step {z : Nat} {sp : Ps S} {s1 sr : S} {ts m r : List Tok} {K : List (List UInt8)} (h0 : (see [101, 110, 100] ts || see [101, 108, 115, 101] ts || see [101, 108, 115, 105, 102] ts) = false) (h1 : ∃ x, x.strip = s1 ∧ sp ts = .ok x m) (h2 : Beg ([59] :: K) m r) (hm : m.length ≤ ts.length)
    (ih : ∀ f acc ts, Beg K ts r → ts.length < f → ∃ s', s'.strip = sr ∧ bodyL z sp f acc ts = .ok (acc.app s') r) : ∀ f acc, ts.length < f → ∃ s', s'.strip = s1.app sr ∧ bodyL z sp f acc ts = .ok (acc.app s') r := by
  intro f acc hf
  obtain ⟨x, e1, e2⟩ := h1
  cases f with
  | zero => omega
  | succ f =>
    obtain ⟨a, h3, h4⟩ := beg_append [[59]] K h2
    have hlen := beg_len _ h3
    simp only [List.length_cons, List.length_nil] at hlen
    obtain ⟨s', g1, g2⟩ := ih f (acc.app x) a h4 (by omega)
    refine ⟨x.app s', by rw [strip_app, e1, g1], ?_⟩
    rw [bodyL, h0, e2]
    simp only [Bool.false_eq_true, if_false, must_rt h3, g2, app_assoc]
theorem ex0_rt {z : Nat} {x : E} (h : Fits 11 0 x) {s : List UInt8} (hs : s ∈ stopsK) {K : List (List UInt8)} {ts r : List Tok} (hb : Beg (toks x ++ s :: K) ts r) : ∃ x' m, x'.strip = x.strip ∧ ex0 z ts = .ok x' m ∧ Beg (s :: K) m r ∧ m.length ≤ ts.length := by
  obtain ⟨m, h1, h2⟩ := beg_append _ _ hb
  obtain ⟨x', e1, e2⟩ := fits_rt (z := z) (d := 11) h h1 (fol_stop hs h2)
  have := beg_len _ h1
  exact ⟨x', m, e1, e2, h2, by omega⟩
/-- What a statement that begins with a name is not. -/
theorem nm_stmt {s : List UInt8} (hs : Nm s) {K : List (List UInt8)} {ts r : List Tok} (hb : Beg (s :: K) ts r) : (see [101, 110, 100] ts || see [101, 108, 115, 101] ts || see [101, 108, 115, 105, 102] ts) = false ∧ see [105, 102] ts = false ∧ see [119, 104, 105, 108, 101] ts = false ∧ see [114, 101, 116, 117, 114, 110] ts = false ∧ see [119, 114, 105, 116, 101] ts = false := by
  simp only [(see_beg hb _).1]
  rw [nm_ne hs (s := [101, 110, 100]) (by decide), nm_ne hs (s := [101, 108, 115, 101]) (by decide), nm_ne hs (s := [101, 108, 115, 105, 102]) (by decide), nm_ne hs (s := [105, 102]) (by decide), nm_ne hs (s := [119, 104, 105, 108, 101]) (by decide), nm_ne hs (s := [114, 101, 116, 117, 114, 110]) (by decide), nm_ne hs (s := [119, 114, 105, 116, 101]) (by decide)]
  decide
theorem set_rt {z p : Nat} {x v : E} {i : Option E} {n : List UInt8} (hx : NX z 10 x) (hi : (i = none ∧ x = .var 0 [] n) ∨ ∃ j, i = some j ∧ x = .item 0 [] n j) (hv : Fits 11 0 v) {K : List (List UInt8)} {ts r : List Tok} (hb : Beg (toks x ++ [58, 61] :: (toks v ++ [59] :: K)) ts r) :
    ∃ s' m, s'.strip = .set 0 n (i.map E.strip) v.strip .nil ∧ first z p ts = .ok s' m ∧ Beg ([59] :: K) m r ∧ m.length ≤ ts.length := by
  obtain ⟨a, h1, h2⟩ := beg_append _ _ hb
  obtain ⟨x', e1, e2⟩ := hx _ _ h1 (fol_mono (Nat.zero_le _) (fol_stop (s := [58, 61]) (by decide) h2))
  obtain ⟨b, h3, h4⟩ := beg_append [[58, 61]] _ h2
  obtain ⟨v', m, f1, f2, f3, f4⟩ := ex0_rt (z := z) hv (s := [59]) (by decide) h4
  have l1 := beg_len _ h1
  have l2 := beg_len _ h3
  simp only [List.length_cons, List.length_nil] at l2
  rw [first, e2]
  rcases hi with ⟨rfl, rfl⟩ | ⟨j, rfl, rfl⟩
  · obtain ⟨q, rfl⟩ := strip_var e1
    refine ⟨.set p n none v' .nil, m, by simp only [S.strip, f1, Option.map_none], ?_, f3, by omega⟩
    simp only [ne_eq, not_true_eq_false, if_false, must_rt h3, f2]
  · obtain ⟨q, i', rfl, e3⟩ := strip_item e1
    refine ⟨.set p n (some i') v' .nil, m, by simp only [S.strip, f1, Option.map_some, e3], ?_, f3, by omega⟩
    simp only [ne_eq, not_true_eq_false, if_false, must_rt h3, f2]
theorem call_rt {z p q : Nat} {m n : List UInt8} {l : E} (hx : NX z 10 (.app q m n l)) {K : List (List UInt8)} {ts r : List Tok} (hb : Beg (toks (.app q m n l) ++ [59] :: K) ts r) :
    ∃ s' a, s'.strip = .call 0 (E.app q m n l).strip .nil ∧ first z p ts = .ok s' a ∧ Beg ([59] :: K) a r ∧ a.length ≤ ts.length := by
  obtain ⟨a, h1, h2⟩ := beg_append _ _ hb
  obtain ⟨x', e1, e2⟩ := hx _ _ h1 (fol_mono (Nat.zero_le _) (fol_stop (s := [59]) (by decide) h2))
  have l1 := beg_len _ h1
  obtain ⟨q', l', rfl⟩ := strip_call e1
  exact ⟨.call p (.app q' m n l') .nil, a, by simp only [S.strip, e1], by rw [first, e2], h2, by omega⟩
/-- What stands behind if. -/
theorem rest_rt {z d : Nat} {v : E} {t e : S} (hv : Fits 11 0 v) (ht : ∀ ts r, Beg (stmtK t) ts r → Stop r → ∃ s', s'.strip = t.strip ∧ (bodies z d).1 ts = .ok s' r) (he : ∀ ts r, Beg (stmtK e) ts r → Stop r → ∃ s', s'.strip = e.strip ∧ (bodies z d).1 ts = .ok s' r)
    {K : List (List UInt8)} {ts r : List Tok} (hb : Beg (toks v ++ [116, 104, 101, 110] :: (stmtK t ++ ((if e.isNil then [] else [101, 108, 115, 101] :: stmtK e) ++ [101, 110, 100] :: K))) ts r) :
    ∃ x m, x.1.strip = v.strip ∧ x.2.1.strip = t.strip ∧ x.2.2.strip = e.strip ∧ restL z (bodies z d).1 (bodies z d).2 ts = .ok x m ∧ Beg ([101, 110, 100] :: K) m r ∧ m.length ≤ ts.length := by
  obtain ⟨v', a, f1, f2, f3, f4⟩ := ex0_rt (z := z) hv (s := [116, 104, 101, 110]) (by decide) hb
  obtain ⟨b, h1, h2⟩ := beg_append [[116, 104, 101, 110]] _ f3
  have l1 := beg_len _ h1
  obtain ⟨c, h3, h4⟩ := beg_append _ _ h2
  have l2 := beg_len _ h3
  simp only [List.length_cons, List.length_nil] at l1
  cases hn : e.isNil with
  | true =>
    rw [hn, if_pos rfl, List.nil_append] at h4
    obtain ⟨t', g1, g2⟩ := ht _ _ h3 (stop_beg (.inl rfl) h4)
    refine ⟨(v', t', .nil), c, f1, g1, by rw [isNil_len hn], ?_, h4, by omega⟩
    rw [restL, f2]
    simp only [must_rt h1, g2]
    rw [if_neg (by rw [(see_beg h4 _).1]; decide), if_neg (by rw [(see_beg h4 _).1]; decide)]
  | false =>
    rw [hn, if_neg (by decide), List.cons_append] at h4
    obtain ⟨t', g1, g2⟩ := ht _ _ h3 (stop_beg (.inr rfl) h4)
    have h5 := see_beg h4
    obtain ⟨m, h6, h7⟩ := beg_append _ _ (h5 []).2
    obtain ⟨e', g3, g4⟩ := he _ _ h6 (stop_beg (.inl rfl) h7)
    have l3 := beg_len _ h6
    refine ⟨(v', t', e'), m, f1, g1, g3, ?_, h7, by simp only [List.length_tail] at l3; omega⟩
    rw [restL, f2]
    simp only [must_rt h1, g2]
    rw [if_neg (by rw [(h5 _).1]; decide), if_pos (by rw [(h5 _).1]; decide), g4]
theorem stmts_rt (z : Nat) : ∀ (s : S) (d : Nat), WFS d s → BX z d s
  | .nil, d, _ => by
    intro r hs f acc ts hb hf
    cases hb
    cases f with
    | zero => omega
    | succ f =>
      refine ⟨.nil, rfl, ?_⟩
      have e : (see [101, 110, 100] r || see [101, 108, 115, 101] r || see [101, 108, 115, 105, 102] r) = true := hs
      have e2 : ∀ a : S, a.app .nil = a := by intro a; induction a <;> simp_all [S.app]
      rw [bodyL, if_pos e, e2]
  | .set p n i v r, d, h => by
    intro rr hs f acc ts hb hf
    have ih := stmts_rt z r d h.2.2.2 rr hs
    have key : ∃ x, NX z 10 x ∧ ((i = none ∧ x = .var 0 [] n) ∨ ∃ j, i = some j ∧ x = .item 0 [] n j) ∧ toks x = n :: indexK i := by
      cases hi : i with
      | none => exact ⟨.var 0 [] n, var_rt (.inl rfl) h.1, .inl ⟨rfl, rfl⟩, rfl⟩
      | some j =>
        have hj := h.2.1 j hi
        exact ⟨.item 0 [] n j, item_rt (.inl rfl) h.1 ((rt_all z j hj.1.1).1 hj.1.2) (fits0 hj).1, .inr ⟨j, rfl, rfl⟩, rfl⟩
    obtain ⟨x, k1, k2, k3⟩ := key
    have hb2 : Beg (toks x ++ [58, 61] :: (toks v ++ [59] :: stmtK r)) ts rr := by rw [k3]; exact hb
    obtain ⟨s', m, e1, e2, e3, e4⟩ := set_rt (p := hd z ts) k1 k2 h.2.2.1 hb2
    have hn := nm_stmt h.1 hb
    refine body_step hn.1 ⟨s', e1, ?_⟩ e3 e4 ih f acc hf
    rw [st, stmt, hn.2.1, hn.2.2.1, hn.2.2.2.1, hn.2.2.2.2]
    exact e2
  | .call p v r, d, h => by
    intro rr hs f acc ts hb hf
    have ih := stmts_rt z r d h.2 rr hs
    obtain ⟨hv, q, m, n, l, rfl⟩ := h.1
    have hn : need l ≤ 10 := by
      have := hv.2
      rw [needW, if_pos (show 5 ≤ lvl (E.app q m n l) from Nat.le_refl 5), need] at this
      omega
    have hx : NX z 10 (.app q m n l) := app_rt hv.1.1.1 hv.1.1.2.1 ((rt_all z l hv.1.1.2.2.1).2 hv.1.1.2.2.2 10 hn)
    obtain ⟨s', a, e1, e2, e3, e4⟩ := call_rt (p := hd z ts) hx hb
    obtain ⟨s, L, k1, k2⟩ := head_qual hv.1.1.1 hv.1.1.2.1 ([40] :: (toks l ++ [[41]]))
    have hb2 : Beg (s :: (L ++ [59] :: stmtK r)) ts rr := by
      rw [← List.cons_append, ← k1]; exact hb
    have hn := nm_stmt k2 hb2
    refine body_step hn.1 ⟨s', e1, ?_⟩ e3 e4 ih f acc hf
    rw [st, stmt, hn.2.1, hn.2.2.1, hn.2.2.2.1, hn.2.2.2.2]
    exact e2
  | .ret p v r, d, h => by
    intro rr hs f acc ts hb hf
    have ih := stmts_rt z r d h.2 rr hs
    have h5 := see_beg hb
    obtain ⟨v', m, e1, e2, e3, e4⟩ := ex0_rt (z := z) h.1 (s := [59]) (by decide) (h5 []).2
    refine body_step (s1 := .ret 0 v.strip .nil) (by rw [(h5 _).1, (h5 _).1, (h5 _).1]; decide) ⟨.ret (hd z ts) v' .nil, by simp only [S.strip, e1], ?_⟩ e3 (by simp only [List.length_tail] at e4; omega) ih f acc hf
    rw [st, stmt, if_neg (by rw [(h5 _).1]; decide), if_neg (by rw [(h5 _).1]; decide), if_pos (by rw [(h5 _).1]; decide), e2]
  | .wri p v r, d, h => by
    intro rr hs f acc ts hb hf
    have ih := stmts_rt z r d h.2 rr hs
    have h5 := see_beg hb
    obtain ⟨v', m, e1, e2, e3, e4⟩ := ex0_rt (z := z) h.1 (s := [59]) (by decide) (h5 []).2
    refine body_step (s1 := .wri 0 v.strip .nil) (by rw [(h5 _).1, (h5 _).1, (h5 _).1]; decide) ⟨.wri (hd z ts) v' .nil, by simp only [S.strip, e1], ?_⟩ e3 (by simp only [List.length_tail] at e4; omega) ih f acc hf
    rw [st, stmt, if_neg (by rw [(h5 _).1]; decide), if_neg (by rw [(h5 _).1]; decide), if_neg (by rw [(h5 _).1]; decide), if_pos (by rw [(h5 _).1]; decide), e2]
  | .whil p v t r, d, h => by
    intro rr hs f acc ts hb hf
    have ih := stmts_rt z r d h.2.2 rr hs
    obtain ⟨hd0, ht⟩ := h.2.1
    obtain ⟨d, rfl⟩ : ∃ k, d = k + 1 := ⟨d - 1, by omega⟩
    have iht := stmts_rt z t d ht
    have h5 := see_beg hb
    obtain ⟨v', a, e1, e2, e3, e4⟩ := ex0_rt (z := z) h.1 (s := [100, 111]) (by decide) (h5 []).2
    obtain ⟨b, h6, h7⟩ := beg_append [[100, 111]] _ e3
    obtain ⟨c, h8, h9⟩ := beg_append _ _ h7
    obtain ⟨t', g1, g2⟩ := body_rt iht h8 (stop_beg (.inl rfl) h9)
    obtain ⟨m, h10, h11⟩ := beg_append [[101, 110, 100]] _ h9
    have l1 := beg_len _ h6
    have l2 := beg_len _ h8
    have l3 := beg_len _ h10
    simp only [List.length_tail, List.length_cons, List.length_nil] at e4 l1 l2 l3
    refine body_step (s1 := .whil 0 v.strip t.strip .nil) (by rw [(h5 _).1, (h5 _).1, (h5 _).1]; decide) ⟨.whil (hd z ts) v' t' .nil, by simp only [S.strip, e1, g1], ?_⟩ h11 (by omega) ih f acc hf
    rw [st, stmt, if_neg (by rw [(h5 _).1]; decide), if_pos (by rw [(h5 _).1]; decide), e2]
    simp only [must_rt h6, g2, must_rt h10]
  | .ifs p v t e r, d, h => by
    intro rr hs f acc ts hb hf
    have ih := stmts_rt z r d h.2.2 rr hs
    obtain ⟨⟨hd0, ht⟩, _, he⟩ := h.2.1
    obtain ⟨d, rfl⟩ : ∃ k, d = k + 1 := ⟨d - 1, by omega⟩
    have iht := stmts_rt z t d ht
    have ihe := stmts_rt z e d he
    have h5 := see_beg hb
    obtain ⟨x, a, e1, e2, e3, e4, e5, e6⟩ := rest_rt (z := z) (d := d + 1) h.1 (fun _ _ h1 h2 => body_rt iht h1 h2) (fun _ _ h1 h2 => body_rt ihe h1 h2) (h5 []).2
    obtain ⟨m, h10, h11⟩ := beg_append [[101, 110, 100]] _ e5
    have l3 := beg_len _ h10
    simp only [List.length_tail, List.length_cons, List.length_nil] at e6 l3
    refine body_step (s1 := .ifs 0 v.strip t.strip e.strip .nil) (by rw [(h5 _).1, (h5 _).1, (h5 _).1]; decide) ⟨.ifs (hd z ts) x.1 x.2.1 x.2.2 .nil, by simp only [S.strip, e1, e2, e3], ?_⟩ h11 (by omega) ih f acc hf
    rw [st, stmt, if_pos (by rw [(h5 _).1]; decide), e4]
    simp only [must_rt h10]

/-! ### Modules -/
def Glob.strip (g : Glob) : Glob := { g with pos := 0 }
def Proc.strip (x : Proc) : Proc := { x with pos := 0, body := x.body.strip }
def Mod.strip (m : Mod) : Mod := { m with vars := m.vars.map Glob.strip, procs := m.procs.map Proc.strip, body := m.body.strip }
theorem namesL_rt {z most : Nat} : ∀ (l : List (List UInt8)) (f : Nat) (acc : List (List UInt8)) (ts r : List Tok), l ≠ [] → (∀ n ∈ l, Nm n) → acc.length + l.length ≤ most → l.length ≤ f → Beg (namesK l) ts r → see [44] r = false → namesL z most f acc ts = .ok (acc ++ l) r
  | [n], f, acc, ts, r, _, hn, hm, hf, hb, hr => by
    simp only [List.length_cons, List.length_nil] at hm hf
    cases f with
    | zero => omega
    | succ f =>
      rw [namesL, if_neg (by omega), name_rt (hn n (by simp)) hb]
      simp only [hr, Bool.false_eq_true, if_false]
  | n :: m :: l, f, acc, ts, r, _, hn, hm, hf, hb, hr => by
    simp only [List.length_cons] at hm hf
    cases f with
    | zero => omega
    | succ f =>
      obtain ⟨a, h1, h2⟩ := beg_append [n] _ hb
      have h3 := see_beg h2
      rw [namesL, if_neg (by omega), name_rt (hn n (by simp)) h1]
      simp only
      rw [if_pos (by rw [(h3 _).1]; decide), namesL_rt (m :: l) f (acc ++ [n]) _ _ (by simp) (fun x hx => hn x (by simp [hx])) (by simp; omega) (by simp; omega) (h3 []).2 hr]
      simp
theorem names_rt {z most : Nat} {l : List (List UInt8)} {ts r : List Tok} (h1 : l ≠ []) (h2 : ∀ n ∈ l, Nm n) (h3 : l.length ≤ most) (hb : Beg (namesK l) ts r) (hr : see [44] r = false) : names z most ts = .ok l r := by
  rw [names, namesL_rt l _ [] ts r h1 h2 (by simpa using h3) (by omega) hb hr]; rfl
theorem head_names {l : List (List UInt8)} (h1 : l ≠ []) (h2 : ∀ n ∈ l, Nm n) : ∃ n L, namesK l = n :: L ∧ Nm n := by
  cases l with
  | nil => exact absurd rfl h1
  | cons n l => cases l <;> exact ⟨n, _, rfl, h2 n (by simp)⟩
theorem star_rt {b : Bool} {s : List UInt8} (hs : (s == [42]) = false) {K : List (List UInt8)} {ts r : List Tok} (hb : Beg (starK b ++ s :: K) ts r) : see [42] ts = b ∧ Beg (s :: K) (skip [42] ts) r := by
  cases b with
  | false =>
    replace hb : Beg (s :: K) ts r := hb
    have h := (see_beg hb [42]).1
    rw [hs] at h
    exact ⟨h, by rw [skip, h]; exact hb⟩
  | true =>
    replace hb : Beg ([42] :: s :: K) ts r := hb
    have h := (see_beg hb [42])
    have h1 : see [42] ts = true := by rw [h.1]; decide
    exact ⟨h1, by rw [skip, h1]; exact h.2⟩
theorem kindOf_rt {z : Nat} {n : Int} (h0 : 0 ≤ n) (h1 : n ≤ 30) {ts r : List Tok} (hb : Beg (if 0 < n then [[97, 114, 114, 97, 121], Lib.itoa n] else [[105, 110, 116]]) ts r) : kindOf z ts = .ok n r := by
  rw [kindOf]
  by_cases hn : 0 < n
  · rw [if_pos hn] at hb
    have h := see_beg hb
    rw [if_pos (by rw [(h _).1]; decide), number_rt h0 h1 (by omega) (h []).2]
    simp only
    rw [if_neg (by omega)]
  · rw [if_neg hn] at hb
    have h := see_beg hb
    rw [if_neg (by rw [(h _).1]; decide), must_rt hb]
    simp only
    congr 1; omega
theorem glob_rt {z : Nat} {g : Glob} (h : WFG g) {ts r : List Tok} (hb : Beg (globK g) ts r) : see [118, 97, 114] ts = true ∧ ∃ g', g'.strip = g.strip ∧ glob z ts.tail = .ok g' r := by
  have h1 := see_beg hb
  refine ⟨by rw [(h1 _).1]; decide, ?_⟩
  obtain ⟨a, h2, h3⟩ := beg_append [g.name] _ (h1 []).2
  obtain ⟨h4, h5⟩ := star_rt (by decide) h3
  obtain ⟨b, h6, h7⟩ := beg_append [[58]] _ h5
  obtain ⟨c, h8, h9⟩ := beg_append _ _ h7
  refine ⟨⟨g.name, hd z ts.tail, g.len, g.seen⟩, rfl, ?_⟩
  rw [glob, name_rt h.name h2]
  simp only [must_rt h6, kindOf_rt h.low h.high h8, must_rt h9, h4]
theorem vars_rt {z : Nat} : ∀ (l : List Glob) (f : Nat) (acc : List Glob) (ts r : List Tok), (∀ g ∈ l, WFG g) → acc.length + l.length ≤ 10 → l.length < f → Beg (l.flatMap globK) ts r → see [118, 97, 114] r = false → ∃ l', l'.map Glob.strip = l.map Glob.strip ∧ varsL z f acc ts = .ok (acc ++ l') r
  | [], f, acc, ts, r, _, _, hf, hb, hr => by
    cases hb
    cases f with
    | zero => omega
    | succ f => exact ⟨[], rfl, by rw [varsL, hr]; simp⟩
  | g :: l, f, acc, ts, r, hg, hm, hf, hb, hr => by
    simp only [List.length_cons] at hm hf
    cases f with
    | zero => omega
    | succ f =>
      rw [List.flatMap_cons] at hb
      obtain ⟨a, h1, h2⟩ := beg_append _ _ hb
      obtain ⟨e1, g', e2, e3⟩ := glob_rt (z := z) (hg g (by simp)) h1
      obtain ⟨l', f1, f2⟩ := vars_rt (z := z) l f (acc ++ [g']) a r (fun x hx => hg x (by simp [hx])) (by simp; omega) (by omega) h2 hr
      refine ⟨g' :: l', by simp [e2, f1], ?_⟩
      rw [varsL, if_pos e1, if_neg (by omega), e3]
      simp only [f2, List.append_assoc, List.cons_append, List.nil_append]
theorem params_rt {z : Nat} {l : List (List UInt8)} (h1 : ∀ n ∈ l, Nm n) (h2 : l.length ≤ 10) {K : List (List UInt8)} {ts r : List Tok} (hb : Beg (namesK l ++ [41] :: K) ts r) : ∃ m, params z ts = .ok l m ∧ Beg K m r := by
  by_cases h0 : l = []
  · subst h0
    have h := see_beg (s := [41]) hb
    refine ⟨ts.tail, ?_, (h []).2⟩
    rw [params, if_pos (by rw [(h _).1]; decide)]
  · obtain ⟨n, L, h3, h4⟩ := head_names h0 h1
    obtain ⟨a, h5, h6⟩ := beg_append _ _ hb
    obtain ⟨m, h7, h8⟩ := beg_append [[41]] K h6
    refine ⟨m, ?_, h8⟩
    have hs : see [41] ts = false := by
      rw [h3] at h5
      rw [(see_beg h5 _).1]; exact nm_ne h4 (by decide)
    rw [params, hs, names_rt h0 h1 h2 h5 (by rw [(see_beg h6 _).1]; decide)]
    simp only [Bool.false_eq_true, if_false, must_rt h7]
/-- Names behind a word. -/
theorem heads_rt {z most : Nat} {s : List UInt8} {l : List (List UInt8)} (h1 : ∀ n ∈ l, Nm n) (h2 : l.length ≤ most) {t : List UInt8} (ht : (t == s) = false) {K : List (List UInt8)} {ts r : List Tok} (hb : Beg (headK s l ++ t :: K) ts r) :
    ∃ m, (if see s ts then match names z most ts.tail with
      | .bad e p => R.bad e p
      | .ok l r => match must z [59] r with
        | .bad e p => .bad e p
        | .ok _ r2 => .ok l r2
    else .ok [] ts) = .ok l m ∧ Beg (t :: K) m r := by
  by_cases h0 : l = []
  · subst h0
    replace hb : Beg (t :: K) ts r := hb
    refine ⟨ts, ?_, hb⟩
    rw [(see_beg hb _).1, ht]; simp
  · rw [headK, if_neg h0, List.cons_append, List.append_assoc] at hb
    have h := see_beg hb
    obtain ⟨a, h5, h6⟩ := beg_append _ _ (h []).2
    obtain ⟨m, h7, h8⟩ := beg_append [[59]] _ h6
    refine ⟨m, ?_, h8⟩
    rw [(h _).1, if_pos (beq_self_eq_true s), names_rt h0 h1 h2 h5 (by rw [(see_beg h6 _).1]; decide)]
    simp only [must_rt h7]
theorem block_rt {z : Nat} {b : S} {m : List UInt8} (h : WFS 10 b) {K : List (List UInt8)} {ts r : List Tok} (hb : Beg ([98, 101, 103, 105, 110] :: (stmtK b ++ [101, 110, 100] :: m :: K)) ts r) : ∃ b' a, b'.strip = b.strip ∧ block z m ts = .ok b' a ∧ Beg K a r := by
  obtain ⟨a, h1, h2⟩ := beg_append [[98, 101, 103, 105, 110]] _ hb
  obtain ⟨c, h3, h4⟩ := beg_append _ _ h2
  obtain ⟨d, h5, h6⟩ := beg_append [[101, 110, 100]] _ h4
  obtain ⟨e, h7, h8⟩ := beg_append [m] _ h6
  obtain ⟨b', e1, e2⟩ := body_rt (stmts_rt z b 10 h) h3 (stop_beg (.inl rfl) h4)
  refine ⟨b', e, e1, ?_, h8⟩
  rw [block, must_rt h1]
  simp only [body0, e2, must_rt h5, must_rt h7]
theorem proc_rt {z : Nat} {x : Proc} (h : WFP x) {ts r : List Tok} (hb : Beg (procK x) ts r) : see [112, 114, 111, 99] ts = true ∧ ∃ x', x'.strip = x.strip ∧ proc z ts = .ok x' r := by
  refine ⟨by rw [(see_beg hb _).1]; decide, ?_⟩
  obtain ⟨a, h1, h2⟩ := beg_append [[112, 114, 111, 99]] _ hb
  obtain ⟨b, h3, h4⟩ := beg_append [x.name] _ h2
  obtain ⟨h5, h6⟩ := star_rt (by decide) h4
  obtain ⟨c, h7, h8⟩ := beg_append [[40]] _ h6
  obtain ⟨d, e1, h9⟩ := params_rt (z := z) h.params h.few h8
  obtain ⟨e, h10, h11⟩ := beg_append [[59]] _ h9
  obtain ⟨f, e2, h12⟩ := heads_rt (z := z) h.vars h.room (by decide) h11
  obtain ⟨b', g, e3, e4, h13⟩ := block_rt (z := z) h.body h12
  cases h13
  refine ⟨⟨x.name, hd z ts, x.seen, x.params, x.vars, b'⟩, by simp only [Proc.strip, e3], ?_⟩
  rw [proc, must_rt h1]
  simp only [name_rt h.name h3, must_rt h7, e1, must_rt h10, h5]
  have e5 : locals z (10 - x.params.length) e = .ok x.vars f := e2
  simp only [e5, e4]
theorem procs_rt {z : Nat} : ∀ (l : List Proc) (f : Nat) (acc : List Proc) (ts r : List Tok), (∀ g ∈ l, WFP g) → acc.length + l.length ≤ 10 → l.length < f → Beg (l.flatMap procK) ts r → see [112, 114, 111, 99] r = false → ∃ l', l'.map Proc.strip = l.map Proc.strip ∧ procsL z f acc ts = .ok (acc ++ l') r
  | [], f, acc, ts, r, _, _, hf, hb, hr => by
    cases hb
    cases f with
    | zero => omega
    | succ f => exact ⟨[], rfl, by rw [procsL, hr]; simp⟩
  | g :: l, f, acc, ts, r, hg, hm, hf, hb, hr => by
    simp only [List.length_cons] at hm hf
    cases f with
    | zero => omega
    | succ f =>
      rw [List.flatMap_cons] at hb
      obtain ⟨a, h1, h2⟩ := beg_append _ _ hb
      obtain ⟨e1, g', e2, e3⟩ := proc_rt (z := z) (hg g (by simp)) h1
      obtain ⟨l', f1, f2⟩ := procs_rt (z := z) l f (acc ++ [g']) a r (fun x hx => hg x (by simp [hx])) (by simp; omega) (by omega) h2 hr
      refine ⟨g' :: l', by simp [e2, f1], ?_⟩
      rw [procsL, if_pos e1, if_neg (by omega), e3]
      simp only [f2, List.append_assoc, List.cons_append, List.nil_append]
/-- What a list of texts begins with, if it begins so, or what stands behind. -/
theorem see_flat {α : Type} {g : α → List (List UInt8)} {w : List UInt8} (hg : ∀ x, ∃ L, g x = w :: L) {s : List UInt8} (hw : (w == s) = false) {t : List UInt8} (ht : (t == s) = false) {l : List α} {K : List (List UInt8)} {ts r : List Tok} (hb : Beg (l.flatMap g ++ t :: K) ts r) : see s ts = false := by
  cases l with
  | nil => rw [(see_beg (s := t) hb _).1]; exact ht
  | cons x l =>
    obtain ⟨L, hL⟩ := hg x
    rw [List.flatMap_cons, hL] at hb
    rw [(see_beg (s := w) hb _).1]; exact hw
theorem module_rt {z : Nat} {m : Mod} (h : WFM m) {ts : List Tok} (hb : Beg (modK m) ts []) : ∃ m', m'.strip = m.strip ∧ module_ z ts = .ok m' [] := by
  obtain ⟨a, h1, h2⟩ := beg_append [[109, 111, 100, 117, 108, 101]] _ hb
  obtain ⟨b, h3, h4⟩ := beg_append [m.name] _ h2
  obtain ⟨c, h5, h6⟩ := beg_append [[59]] _ h4
  have key : ∃ d, imports z c = .ok m.imports d ∧ Beg (m.vars.flatMap globK ++ (m.procs.flatMap procK ++ [98, 101, 103, 105, 110] :: (stmtK m.body ++ [[101, 110, 100], [46]]))) d [] := by
    have : ∃ t K, m.vars.flatMap globK ++ (m.procs.flatMap procK ++ [98, 101, 103, 105, 110] :: (stmtK m.body ++ [[101, 110, 100], [46]])) = t :: K ∧ (t == [105, 109, 112, 111, 114, 116]) = false := by
      cases m.vars with
      | nil =>
        cases m.procs with
        | nil => exact ⟨_, _, rfl, by decide⟩
        | cons x l => exact ⟨[112, 114, 111, 99], _, rfl, by decide⟩
      | cons x l => exact ⟨[118, 97, 114], _, rfl, by decide⟩
    obtain ⟨t, K, k1, k2⟩ := this
    have h6' : Beg (headK [105, 109, 112, 111, 114, 116] m.imports ++ t :: K) c [] := by rw [← k1]; exact h6
    obtain ⟨d, e1, e2⟩ := heads_rt (z := z) h.imports h.few k2 h6'
    exact ⟨d, e1, by rw [k1]; exact e2⟩
  obtain ⟨d, e1, h7⟩ := key
  obtain ⟨e, h8, h9⟩ := beg_append _ _ h7
  obtain ⟨f, h10, h11⟩ := beg_append _ _ h9
  obtain ⟨vs, f1, f2⟩ := vars_rt (z := z) m.vars 11 [] d e h.vars (by simpa using h.fewv) (by have := h.fewv; omega) h8 (see_flat (w := [112, 114, 111, 99]) (g := procK) (fun x => ⟨_, rfl⟩) (by decide) (by decide) h9)
  obtain ⟨ps, f3, f4⟩ := procs_rt (z := z) m.procs 11 [] e f h.procs (by simpa using h.fewp) (by have := h.fewp; omega) h10 (by rw [(see_beg h11 _).1]; decide)
  obtain ⟨b', g, e3, e4, h12⟩ := block_rt (z := z) h.body h11
  cases h12
  refine ⟨⟨m.name, m.imports, vs, ps, b'⟩, by simp only [Mod.strip, f1, f3, e3], ?_⟩
  rw [module_, must_rt h1]
  simp only [name_rt h.name h3, must_rt h5, e1, f2, List.nil_append, f4, e4]
end Go.Mq.Tree
