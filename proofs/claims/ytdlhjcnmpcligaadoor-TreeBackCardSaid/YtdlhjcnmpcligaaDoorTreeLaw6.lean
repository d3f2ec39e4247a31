/- What is printed has these tokens; so it is read as what was printed, whatever blanks stand between. Plain Lean. -/
import Derived.Test.YtdlhjcnmpcligaaDoorTreeLaw5
namespace Go.Mq.Tree
open Go Go.RowKit Go.Mq

/-- Does not lengthen a word. -/
def Calm (v : List UInt8) : Prop := ∀ b, v.head? = some b → wordy b = false
theorem calm_cons {b : UInt8} (h : wordy b = false) (v : List UInt8) : Calm (b :: v) := by
  intro c hc
  simp only [List.head?_cons, Option.some.injEq] at hc
  subst hc; exact h
theorem calm_nil : Calm [] := by intro b h; simp at h
def wordB : List UInt8 → Bool
  | [] => false
  | c :: r => letter c && r.all wordy
theorem is_word {t : List UInt8} (h : wordB t = true) : IsWord t := by
  cases t with
  | nil => cases h
  | cons c r =>
    simp only [wordB, Bool.and_eq_true, List.all_eq_true] at h
    exact ⟨c, r, rfl, h.1, h.2⟩
theorem tk_word {t u : List UInt8} {K : List (List UInt8)} (h : IsWord t ∨ IsNum t) (hu : Calm u) (hk : Toks u K) : Toks (t ++ u) (t :: K) := by
  refine .tok (h.elim .inl fun h => .inr (.inl h)) ?_ hk
  cases u with
  | nil => trivial
  | cons b u =>
    refine ⟨fun _ => hu b rfl, fun _ => ?_⟩
    have hm : kindT t ≠ .mark := by
      rcases h with h | h
      · rw [kind_word h]; decide
      · rw [kind_num h]; decide
    refine ⟨?_, ?_, ?_⟩ <;> (rintro rfl; exact hm (by decide))
theorem tk_nm {n u : List UInt8} {K : List (List UInt8)} (h : Nm n) (hu : Calm u) (hk : Toks u K) : Toks (n ++ u) (n :: K) := tk_word (.inl h.1) hu hk
theorem tk_kw {b : UInt8} {t u : List UInt8} {K : List (List UInt8)} (h : wordB t = true) (hb : wordy b = false) (hk : Toks (b :: u) K) : Toks (t ++ b :: u) (t :: K) := tk_word (.inl (is_word h)) (calm_cons hb u) hk
/-- A mark that nothing lengthens. -/
def markB (t : List UInt8) : Bool := marks.contains t && t != [58] && t != [60] && t != [62]
theorem tk_mark {t u : List UInt8} {K : List (List UInt8)} (h : markB t = true) (hk : Toks u K) : Toks (t ++ u) (t :: K) := by
  simp only [markB, Bool.and_eq_true, List.contains_iff_mem, bne_iff_ne, ne_eq] at h
  refine .tok (.inr (.inr h.1.1.1)) ?_ hk
  cases u with
  | nil => trivial
  | cons b u => exact ⟨fun h1 => absurd (kind_mark t h.1.1.1) h1, fun _ => ⟨h.1.1.2, h.1.2, h.2⟩⟩
theorem tk_gap {b : UInt8} {t u : List UInt8} {K : List (List UInt8)} (h : IsTok t) (hb : gap b = true) (hk : Toks u K) : Toks (t ++ b :: u) (t :: K) := .tok h (ends_gap hb) (.gap hb hk)
theorem tk_colon {u : List UInt8} {K : List (List UInt8)} (hk : Toks u K) : Toks ([58, 32] ++ u) ([58] :: K) := tk_gap (t := [58]) (b := 32) (.inr (.inr (by decide))) (by decide) hk
theorem op_tok : ∀ k < 5, ∀ op ∈ levels.getD (4 - k) [], wordB op = true ∨ op ∈ marks := by decide

/-! ### Expressions -/
def TX (x : E) : Prop := ∀ v K, Calm v → Toks v K → Toks (text x ++ v) (toks x ++ K)
theorem within_tx {lv : Nat} {x : E} (h : TX x) {v : List UInt8} {K : List (List UInt8)} (hv : Calm v) (hk : Toks v K) : Toks (within lv x (text x) ++ v) (withinK lv x (toks x) ++ K) := by
  rw [within, withinK]
  split
  · exact h v K hv hk
  · simp only [List.append_assoc, List.cons_append, List.nil_append]
    exact tk_mark (t := [40]) (by decide) (h _ _ (calm_cons (by decide) v) (tk_mark (t := [41]) (by decide) hk))
theorem qual_tx {m n : List UInt8} (hm : Qm m) (hn : Nm n) {v : List UInt8} {K : List (List UInt8)} (hv : Calm v) (hk : Toks v K) : Toks (qualT m n ++ v) (qualK m n ++ K) := by
  rw [qualT, qualK]
  split
  · exact tk_nm hn hv hk
  · rename_i h
    simp only [List.append_assoc, List.cons_append, List.nil_append]
    exact tk_nm (hm.resolve_left h) (calm_cons (by decide) _) (tk_mark (t := [46]) (by decide) (tk_nm hn hv hk))
theorem text_tx : ∀ x : E, WF x → TX x
  | .num _ n, h => by
    intro v K hv hk
    exact tk_word (.inr (itoa_num h.1)) hv hk
  | .var _ m n, h => by
    intro v K hv hk
    exact qual_tx h.1 h.2 hv hk
  | .item _ m n i, h => by
    intro v K hv hk
    have ih := text_tx i h.2.2.1
    simp only [text, toks, List.append_assoc, List.cons_append, List.nil_append]
    exact qual_tx h.1 h.2.1 (calm_cons (by decide) _) (tk_mark (t := [91]) (by decide) (ih _ _ (calm_cons (by decide) v) (tk_mark (t := [93]) (by decide) hk)))
  | .app _ m n l, h => by
    intro v K hv hk
    have ih := text_tx l h.2.2.1
    simp only [text, toks, List.append_assoc, List.cons_append, List.nil_append]
    exact qual_tx h.1 h.2.1 (calm_cons (by decide) _) (tk_mark (t := [40]) (by decide) (ih _ _ (calm_cons (by decide) v) (tk_mark (t := [41]) (by decide) hk)))
  | .un _ op x, h => by
    intro v K hv hk
    have ih := within_tx (lv := 5) (text_tx x h.2.1) hv hk
    rcases h.1 with rfl | rfl
    · simp only [text, toks, List.append_assoc]
      rw [if_neg (by decide)]
      exact tk_mark (t := [45]) (by decide) ih
    · simp only [text, toks, List.append_assoc, if_true]
      exact tk_kw (t := [110, 111, 116]) (b := 32) (by decide) (by decide) (.gap (by decide) ih)
  | .bin _ op x y, h => by
    intro v K hv hk
    obtain ⟨k, h1, h2⟩ := h.1
    have hx := text_tx x h.2.1.1
    have hy := within_tx (lv := opLevel op + 1) (text_tx y h.2.2.1) hv hk
    have ho : IsTok op := (op_tok k h1 op h2).elim (fun h => .inl (is_word h)) (fun h => .inr (.inr h))
    simp only [text, toks, List.append_assoc, List.cons_append, List.nil_append]
    exact within_tx hx (calm_cons (by decide) _) (.gap (by decide) (tk_gap ho (by decide) hy))
  | .nil, _ => by intro v K _ hk; exact hk
  | .cons x .nil, h => by
    intro v K hv hk
    exact text_tx x h.1.1 v K hv hk
  | .cons x (.cons y r), h => by
    intro v K hv hk
    have ih := text_tx (.cons y r) h.2.1 v K hv hk
    have hx := text_tx x h.1.1
    rw [text, toks]
    · simp only [List.append_assoc, List.cons_append, List.nil_append]
      exact hx _ _ (calm_cons (by decide) _) (tk_mark (t := [44]) (by decide) (.gap (c := 32) (by decide) ih))
    · intro h; cases h
    · intro h; cases h

/-! ### Statements -/
/-- An expression, a mark, a line's end. -/
theorem line_tx {d lv : Nat} {x : E} (h : Fits d lv x) {v : List UInt8} {K : List (List UInt8)} (hk : Toks v K) : Toks (text x ++ ([59, 10] ++ v)) (toks x ++ [59] :: K) :=
  text_tx x h.1.1 _ _ (calm_cons (by decide) _) (tk_mark (t := [59]) (by decide) (.gap (c := 10) (by decide) hk))
def Gaps (tab : List UInt8) : Prop := ∀ x ∈ tab, gap x = true
theorem gaps_more {tab : List UInt8} (h : Gaps tab) : Gaps (tab ++ [32, 32]) := by
  intro x hx
  rcases List.mem_append.mp hx with hx | hx
  · exact h x hx
  · have : ∀ x ∈ [32, 32], gap x = true := by decide
    exact this x hx
theorem end_tx {tab v : List UInt8} {K : List (List UInt8)} (ht : Gaps tab) (hk : Toks v K) : Toks (tab ++ ([101, 110, 100, 59, 10] ++ v)) ([101, 110, 100] :: [59] :: K) :=
  toks_gaps ht (tk_kw (t := [101, 110, 100]) (b := 59) (by decide) (by decide) (tk_mark (t := [59]) (by decide) (.gap (c := 10) (by decide) hk)))
theorem stmts_tx : ∀ (s : S) (d : Nat), WFS d s → ∀ tab v K, Gaps tab → Toks v K → Toks (stmtsT s tab ++ v) (stmtK s ++ K)
  | .nil, _, _ => by intro tab v K _ hk; exact hk
  | .set _ n i x r, d, h => by
    intro tab v K ht hk
    have ih := stmts_tx r d h.2.2.2 tab v K ht hk
    simp only [stmtsT, stmtK, List.append_assoc, List.cons_append, List.nil_append]
    have h1 : Toks ([32, 58, 61, 32] ++ (text x ++ ([59, 10] ++ (stmtsT r tab ++ v)))) ([58, 61] :: (toks x ++ [59] :: (stmtK r ++ K))) :=
      .gap (c := 32) (by decide) (tk_mark (t := [58, 61]) (by decide) (.gap (c := 32) (by decide) (line_tx h.2.2.1 ih)))
    refine toks_gaps ht (tk_nm h.1 ?_ ?_)
    · cases i with
      | none => exact calm_cons (by decide) _
      | some j => exact calm_cons (by decide) _
    · cases i with
      | none => exact h1
      | some j =>
        simp only [indexK, List.append_assoc, List.cons_append, List.nil_append] at h1 ⊢
        exact tk_mark (t := [91]) (by decide) (text_tx j (h.2.1 j rfl).1.1 _ _ (calm_cons (by decide) _) (tk_mark (t := [93]) (by decide) h1))
  | .ret _ x r, d, h => by
    intro tab v K ht hk
    have ih := stmts_tx r d h.2 tab v K ht hk
    simp only [stmtsT, stmtK, List.append_assoc, List.cons_append, List.nil_append]
    exact toks_gaps ht (tk_kw (t := [114, 101, 116, 117, 114, 110]) (b := 32) (by decide) (by decide) (.gap (by decide) (line_tx h.1 ih)))
  | .wri _ x r, d, h => by
    intro tab v K ht hk
    have ih := stmts_tx r d h.2 tab v K ht hk
    simp only [stmtsT, stmtK, List.append_assoc, List.cons_append, List.nil_append]
    exact toks_gaps ht (tk_kw (t := [119, 114, 105, 116, 101]) (b := 32) (by decide) (by decide) (.gap (by decide) (line_tx h.1 ih)))
  | .call _ x r, d, h => by
    intro tab v K ht hk
    have ih := stmts_tx r d h.2 tab v K ht hk
    simp only [stmtsT, stmtK, List.append_assoc, List.cons_append, List.nil_append]
    exact toks_gaps ht (line_tx h.1.1 ih)
  | .whil _ x t r, d, h => by
    intro tab v K ht hk
    have ih := stmts_tx r d h.2.2 tab v K ht hk
    have iht := stmts_tx t (d - 1) h.2.1.2 (tab ++ [32, 32]) _ _ (gaps_more ht) (end_tx ht ih)
    simp only [stmtsT, stmtK, List.append_assoc, List.cons_append, List.nil_append] at iht ⊢
    exact toks_gaps ht (tk_kw (t := [119, 104, 105, 108, 101]) (b := 32) (by decide) (by decide) (.gap (by decide) (text_tx x h.1.1.1 _ _ (calm_cons (by decide) _) (.gap (c := 32) (by decide) (tk_kw (t := [100, 111]) (b := 10) (by decide) (by decide) (.gap (by decide) iht))))))
  | .ifs _ x t e r, d, h => by
    intro tab v K ht hk
    have ih := stmts_tx r d h.2.2 tab v K ht hk
    have he : Toks ((if e.isNil then [] else tab ++ [101, 108, 115, 101, 10] ++ stmtsT e (tab ++ [32, 32])) ++ (tab ++ ([101, 110, 100, 59, 10] ++ (stmtsT r tab ++ v)))) ((if e.isNil then [] else [101, 108, 115, 101] :: stmtK e) ++ [101, 110, 100] :: [59] :: (stmtK r ++ K)) := by
      have ihe := stmts_tx e (d - 1) h.2.1.2.2 (tab ++ [32, 32]) _ _ (gaps_more ht) (end_tx ht ih)
      split
      · exact end_tx ht ih
      · simp only [List.append_assoc, List.cons_append, List.nil_append] at ihe ⊢
        exact toks_gaps ht (tk_kw (t := [101, 108, 115, 101]) (b := 10) (by decide) (by decide) (.gap (by decide) ihe))
    have iht := stmts_tx t (d - 1) h.2.1.1.2 (tab ++ [32, 32]) _ _ (gaps_more ht) he
    simp only [stmtsT, stmtK, List.append_assoc, List.cons_append, List.nil_append] at iht ⊢
    exact toks_gaps ht (tk_kw (t := [105, 102]) (b := 32) (by decide) (by decide) (.gap (by decide) (text_tx x h.1.1.1 _ _ (calm_cons (by decide) _) (.gap (c := 32) (by decide) (tk_kw (t := [116, 104, 101, 110]) (b := 10) (by decide) (by decide) (.gap (by decide) iht))))))

/-! ### Modules -/
theorem star_tx {b : Bool} {v : List UInt8} {K : List (List UInt8)} (hk : Toks v K) : Toks (star b ++ v) (starK b ++ K) := by
  cases b with
  | false => exact hk
  | true => exact tk_mark (t := [42]) (by decide) hk
theorem star_calm {b : Bool} {v : List UInt8} (hv : Calm v) : Calm (star b ++ v) := by
  cases b with
  | false => exact hv
  | true => exact calm_cons (by decide) _
theorem glob_tx {g : Glob} (h : WFG g) {v : List UInt8} {K : List (List UInt8)} (hk : Toks v K) : Toks (globT g ++ v) (globK g ++ K) := by
  have h1 : Toks ((if 0 < g.len then [97, 114, 114, 97, 121, 32] ++ Lib.itoa g.len else [105, 110, 116]) ++ ([59, 10] ++ v)) ((if 0 < g.len then [[97, 114, 114, 97, 121], Lib.itoa g.len] else [[105, 110, 116]]) ++ [59] :: K) := by
    have h2 : Toks ([59, 10] ++ v) ([59] :: K) := tk_mark (t := [59]) (by decide) (.gap (c := 10) (by decide) hk)
    split
    · rename_i h3
      simp only [List.append_assoc, List.cons_append, List.nil_append] at h2 ⊢
      exact tk_kw (t := [97, 114, 114, 97, 121]) (b := 32) (by decide) (by decide) (.gap (by decide) (tk_word (.inr (itoa_num h.low)) (calm_cons (by decide) _) h2))
    · exact tk_kw (t := [105, 110, 116]) (b := 59) (by decide) (by decide) h2
  simp only [globT, globK, List.append_assoc, List.cons_append, List.nil_append] at h1 ⊢
  exact tk_kw (t := [118, 97, 114]) (b := 32) (by decide) (by decide) (.gap (by decide) (tk_nm h.name (star_calm (calm_cons (by decide) _)) (star_tx (tk_colon h1))))
theorem join_more (x y : List UInt8) (r : List (List UInt8)) (s : List UInt8) : Lib.join (x :: y :: r) s = x ++ (s ++ Lib.join (y :: r) s) := by
  rw [Lib.join_cons, Lib.join_cons]
  simp [Lib.joinTail]
theorem names_tx : ∀ (l : List (List UInt8)), (∀ n ∈ l, Nm n) → ∀ v K, Calm v → Toks v K → Toks (Lib.join l [44, 32] ++ v) (namesK l ++ K)
  | [], _ => by intro v K _ hk; exact hk
  | [n], h => by
    intro v K hv hk
    rw [Lib.join_one]
    exact tk_nm (h n (by simp)) hv hk
  | n :: m :: r, h => by
    intro v K hv hk
    have ih := names_tx (m :: r) (fun x hx => h x (by simp [hx])) v K hv hk
    rw [join_more]
    simp only [namesK, List.append_assoc, List.cons_append, List.nil_append]
    exact tk_nm (h n (by simp)) (calm_cons (by decide) _) (tk_mark (t := [44]) (by decide) (.gap (c := 32) (by decide) ih))
/-- Names behind a word. -/
theorem heads_tx {w : List UInt8} (hw : wordB w = true) {l : List (List UInt8)} (h : ∀ n ∈ l, Nm n) {v : List UInt8} {K : List (List UInt8)} (hk : Toks v K) : Toks ((if l = [] then [] else w ++ 32 :: Lib.join l [44, 32] ++ [59, 10]) ++ v) (headK w l ++ K) := by
  rw [headK]
  split
  · exact hk
  · simp only [List.append_assoc, List.cons_append, List.nil_append]
    exact tk_kw hw (by decide) (.gap (by decide) (names_tx l h _ _ (calm_cons (by decide) _) (tk_mark (t := [59]) (by decide) (.gap (c := 10) (by decide) hk))))
theorem block_tx {b : S} (h : WFS 10 b) {m v : List UInt8} (hm : markB m = true) (hw : Calm (m ++ 10 :: v)) {K : List (List UInt8)} (hk : Toks v K) : Toks ([98, 101, 103, 105, 110, 10] ++ (stmtsT b [32, 32] ++ ([101, 110, 100] ++ (m ++ 10 :: v)))) ([98, 101, 103, 105, 110] :: (stmtK b ++ [101, 110, 100] :: m :: K)) :=
  tk_kw (t := [98, 101, 103, 105, 110]) (b := 10) (by decide) (by decide) (.gap (by decide) (stmts_tx b 10 h [32, 32] _ _ (show ∀ x ∈ [32, 32], gap x = true by decide) (tk_word (.inl (is_word (t := [101, 110, 100]) (by decide))) hw (tk_mark hm (.gap (by decide) hk)))))
theorem proc_tx {x : Proc} (h : WFP x) {v : List UInt8} {K : List (List UInt8)} (hk : Toks v K) : Toks (procT x ++ v) (procK x ++ K) := by
  have h1 := heads_tx (w := [118, 97, 114]) (by decide) h.vars (block_tx h.body (m := [59]) (by decide) (calm_cons (by decide) _) hk)
  simp only [procT, procK, List.append_assoc, List.cons_append, List.nil_append] at h1 ⊢
  exact tk_kw (t := [112, 114, 111, 99]) (b := 32) (by decide) (by decide) (.gap (by decide) (tk_nm h.name (star_calm (calm_cons (by decide) _)) (star_tx (tk_mark (t := [40]) (by decide) (names_tx _ h.params _ _ (calm_cons (by decide) _) (tk_mark (t := [41]) (by decide) (tk_mark (t := [59]) (by decide) (.gap (c := 10) (by decide) h1))))))))
theorem flat_tx {α : Type} {f : α → List UInt8} {g : α → List (List UInt8)} {P : α → Prop} (h : ∀ x, P x → ∀ v K, Toks v K → Toks (f x ++ v) (g x ++ K)) : ∀ l : List α, (∀ x ∈ l, P x) → ∀ v K, Toks v K → Toks (l.flatMap f ++ v) (l.flatMap g ++ K)
  | [], _ => by intro v K hk; exact hk
  | x :: l, hl => by
    intro v K hk
    rw [List.flatMap_cons, List.flatMap_cons, List.append_assoc, List.append_assoc]
    exact h x (hl x (by simp)) _ _ (flat_tx h l (fun y hy => hl y (by simp [hy])) v K hk)
theorem module_tx {m : Mod} (h : WFM m) : Toks (modT m) (modK m) := by
  have h1 := block_tx h.body (m := [46]) (by decide) (calm_cons (by decide) _) .nil
  have h2 := flat_tx (f := procT) (g := procK) (fun x hx v K hk => proc_tx hx hk) m.procs h.procs _ _ h1
  have h3 := flat_tx (f := globT) (g := globK) (fun x hx v K hk => glob_tx hx hk) m.vars h.vars _ _ h2
  have h4 := heads_tx (w := [105, 109, 112, 111, 114, 116]) (by decide) h.imports h3
  simp only [modT, modK, List.append_assoc, List.cons_append, List.nil_append] at h4 ⊢
  exact tk_kw (t := [109, 111, 100, 117, 108, 101]) (b := 32) (by decide) (by decide) (.gap (by decide) (tk_nm h.name (calm_cons (by decide) _) (tk_mark (t := [59]) (by decide) (.gap (c := 10) (by decide) h4))))

/-! ### The places do not show -/
theorem lvl_strip (x : E) : lvl x.strip = lvl x := by cases x <;> rfl
theorem text_strip : ∀ x : E, text x.strip = text x
  | .num _ _ => rfl
  | .var _ _ _ => rfl
  | .item _ _ _ i => by simp only [E.strip, text, text_strip i]
  | .un _ _ x => by simp only [E.strip, text, within, lvl_strip, text_strip x]
  | .bin _ _ x y => by simp only [E.strip, text, within, lvl_strip, text_strip x, text_strip y]
  | .app _ _ _ l => by simp only [E.strip, text, text_strip l]
  | .nil => rfl
  | .cons x r => by
    have hx := text_strip x
    have hr := text_strip r
    cases r <;> simp only [E.strip, text, hx] at hr ⊢ <;> rw [hr]
theorem stmts_strip : ∀ (s : S) (tab : List UInt8), stmtsT s.strip tab = stmtsT s tab
  | .nil, _ => rfl
  | .set _ _ i _ r, tab => by cases i <;> simp only [S.strip, stmtsT, Option.map, text_strip, stmts_strip r]
  | .ifs _ _ t e r, tab => by simp only [S.strip, stmtsT, text_strip, strip_nil, stmts_strip t, stmts_strip e, stmts_strip r]
  | .whil _ _ t r, tab => by simp only [S.strip, stmtsT, text_strip, stmts_strip t, stmts_strip r]
  | .ret _ _ r, tab => by simp only [S.strip, stmtsT, text_strip, stmts_strip r]
  | .wri _ _ r, tab => by simp only [S.strip, stmtsT, text_strip, stmts_strip r]
  | .call _ _ r, tab => by simp only [S.strip, stmtsT, text_strip, stmts_strip r]
theorem mod_strip (m : Mod) : modT m.strip = modT m := by
  have h1 : globT ∘ Glob.strip = globT := rfl
  have h2 : procT ∘ Proc.strip = procT := by funext x; simp only [Function.comp, procT, Proc.strip, stmts_strip]; rfl
  simp only [modT, Mod.strip, List.flatMap_map, stmts_strip]
  rw [show (fun a => globT a.strip) = globT from h1, show (fun a => procT a.strip) = procT from h2]; rfl
/-- What a text of at most 550 bytes tells, printed, with other blanks, tells it again. -/
theorem back {s u : List UInt8} {m : Mod} (hs : s.length ≤ 550) (h : parse s = .ok m) (hu : Spread (modT m) u) : ∃ m', parse u = .ok m' ∧ modT m' = modT m ∧ m'.imports = m.imports ∧ m'.vars.length = m.vars.length ∧ m'.procs.length = m.procs.length := by
  obtain ⟨hw, hl⟩ := parse_sp h
  obtain ⟨ts, h1, h2⟩ := lexL_toks (toks_spread (module_tx hw) u hu) u.length 0 0 (Nat.le_refl _) (by omega)
  obtain ⟨m', e1, e2⟩ := module_rt (z := u.length) hw (beg_are _ _ h2)
  refine ⟨m', ?_, ?_, (congrArg Mod.imports e1 :), ?_, ?_⟩
  · rw [parse, lex, h1]; simp only [e2]
  · rw [← mod_strip m', e1, mod_strip]
  · simpa [Mod.strip] using congrArg (fun m : Mod => m.vars.length) e1
  · simpa [Mod.strip] using congrArg (fun m : Mod => m.procs.length) e1
end Go.Mq.Tree
