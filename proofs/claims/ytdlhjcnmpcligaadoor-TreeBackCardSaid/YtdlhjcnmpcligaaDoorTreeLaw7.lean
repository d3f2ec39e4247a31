/- How long what is printed may be. Plain Lean. -/
import Derived.Test.YtdlhjcnmpcligaaDoorTreeLaw6
import Derived.Lib.ItoaLen
namespace Go.Mq.Tree
open Go Go.RowKit Go.Mq
theorem qual_le {m n : List UInt8} (hm : Qm m) (hn : Nm n) : (qualT m n).length ≤ 24 * (qualK m n).length := by
  have h1 := hn.2.2
  rw [qualT, qualK]
  split
  · simp; omega
  · rename_i h0
    rcases hm with h | h
    · exact absurd h h0
    · have := h.2.2; simp; omega
theorem within_le24 {lv : Nat} {x : E} (h : (text x).length ≤ 24 * (toks x).length) : (within lv x (text x)).length ≤ 24 * (withinK lv x (toks x)).length := by
  rw [within, withinK]
  split
  · exact h
  · simp; omega
theorem op_len3 : ∀ k < 5, ∀ op ∈ levels.getD (4 - k) [], op.length ≤ 10 := by decide
theorem text_le : ∀ x : E, WF x → (text x).length ≤ 24 * (toks x).length
  | .num _ n, h => by have := Lib.itoa_length_le n (by have := h.1; omega) h.2; simp only [text, toks, List.length_cons, List.length_nil]; omega
  | .var _ m n, h => by simpa [text, toks] using qual_le h.1 h.2
  | .item _ m n i, h => by
    have h1 := qual_le h.1 h.2.1
    have h2 := text_le i h.2.2.1
    simp only [text, toks, List.length_append, List.length_cons, List.length_nil]; omega
  | .un _ op x, h => by
    have h2 := within_le24 (lv := 5) (text_le x h.2.1)
    have h3 : (if op = [110, 111, 116] then [110, 111, 116, 32] else [45] : List UInt8).length ≤ 4 := by split <;> decide
    simp only [text, toks, List.length_append, List.length_cons]; omega
  | .bin _ op x y, h => by
    obtain ⟨k, hk, hop⟩ := h.1
    have h1 := op_len3 k hk op hop
    have h2 := within_le24 (lv := opLevel op) (text_le x h.2.1.1)
    have h3 := within_le24 (lv := opLevel op + 1) (text_le y h.2.2.1)
    simp only [text, toks, List.length_append, List.length_cons, List.length_nil]; omega
  | .app _ m n l, h => by
    have h1 := qual_le h.1 h.2.1
    have h2 := text_le l h.2.2.1
    simp only [text, toks, List.length_append, List.length_cons, List.length_nil]; omega
  | .nil, _ => by simp [text]
  | .cons x r, h => by
    have h1 := text_le x h.1.1
    have h2 := text_le r h.2.1
    cases r with
    | nil => simpa only [text, toks] using h1
    | _ => simp only [text, toks, List.length_append, List.length_cons, List.length_nil] at h1 h2 ⊢; omega
theorem stmts_le : ∀ (s : S) (d : Nat), WFS d s → ∀ tab : List UInt8, tab.length + 2 * d ≤ 22 → (stmtsT s tab).length ≤ 80 * (stmtK s).length
  | .nil, _, _, _, _ => by simp [stmtsT]
  | .set _ n i v r, d, h, tab, ht => by
    have h1 := stmts_le r d h.2.2.2 tab ht
    have h2 := text_le v h.2.2.1.1.1
    have h3 := h.1.2.2
    cases i with
    | none => simp only [stmtsT, stmtK, indexK, List.length_append, List.length_cons, List.length_nil]; omega
    | some y =>
      have h4 := text_le y (h.2.1 y rfl).1.1
      simp only [stmtsT, stmtK, indexK, List.length_append, List.length_cons, List.length_nil]; omega
  | .ret _ v r, d, h, tab, ht => by
    have h1 := stmts_le r d h.2 tab ht
    have h2 := text_le v h.1.1.1
    simp only [stmtsT, stmtK, List.length_append, List.length_cons, List.length_nil]; omega
  | .wri _ v r, d, h, tab, ht => by
    have h1 := stmts_le r d h.2 tab ht
    have h2 := text_le v h.1.1.1
    simp only [stmtsT, stmtK, List.length_append, List.length_cons, List.length_nil]; omega
  | .call _ v r, d, h, tab, ht => by
    have h1 := stmts_le r d h.2 tab ht
    have h2 := text_le v h.1.1.1.1
    simp only [stmtsT, stmtK, List.length_append, List.length_cons, List.length_nil]; omega
  | .whil _ v t r, d, h, tab, ht => by
    have h0 := h.2.1.1
    have h1 := stmts_le r d h.2.2 tab ht
    have h2 := text_le v h.1.1.1
    have h3 := stmts_le t (d - 1) h.2.1.2 (tab ++ [32, 32]) (by simp; omega)
    simp only [stmtsT, stmtK, List.length_append, List.length_cons, List.length_nil] at h3 ⊢; omega
  | .ifs _ v t e r, d, h, tab, ht => by
    have h0 := h.2.1.1.1
    have h1 := stmts_le r d h.2.2 tab ht
    have h2 := text_le v h.1.1.1
    have h3 := stmts_le t (d - 1) h.2.1.1.2 (tab ++ [32, 32]) (by simp; omega)
    have h4 := stmts_le e (d - 1) h.2.1.2.2 (tab ++ [32, 32]) (by simp; omega)
    have h5 : (if e.isNil then [] else tab ++ [101, 108, 115, 101, 10] ++ stmtsT e (tab ++ [32, 32])).length ≤ 80 * (if e.isNil then [] else [101, 108, 115, 101] :: stmtK e).length := by
      split
      · simp
      · simp only [List.length_append, List.length_cons, List.length_nil] at h4 ⊢; omega
    simp only [stmtsT, stmtK, List.length_append, List.length_cons, List.length_nil] at h3 h5 ⊢; omega
theorem names_le12 : ∀ l : List (List UInt8), (∀ n ∈ l, Nm n) → (Lib.join l [44, 32]).length ≤ 12 * (namesK l).length
  | [], _ => by simp [Lib.join_nil]
  | [n], h => by rw [Lib.join_one]; have := (h n (by simp)).2.2; simp [namesK]; omega
  | n :: m :: r, h => by
    have ih := names_le12 (m :: r) (fun x hx => h x (by simp [hx]))
    have := (h n (by simp)).2.2
    rw [join_more]
    simp only [namesK, List.length_append, List.length_cons, List.length_nil]; omega
theorem head_le {w : List UInt8} {l : List (List UInt8)} (hw : w.length ≤ 6) (h : ∀ n ∈ l, Nm n) : (if l = [] then [] else w ++ [32] ++ Lib.join l [44, 32] ++ [59, 10] : List UInt8).length ≤ 80 * (headK w l).length := by
  rw [headK]
  have := names_le12 l h
  split
  · simp
  · simp only [List.length_append, List.length_cons, List.length_nil]; omega
theorem glob_le {g : Glob} (h : WFG g) : (globT g).length ≤ 80 * (globK g).length := by
  have h1 := h.name.2.2
  have h2 := Lib.itoa_length_le g.len (by have := h.low; omega) (by have := h.high; omega)
  have h3 : (star g.seen).length ≤ 1 := by cases g.seen <;> decide
  have h4 : (if 0 < g.len then [97, 114, 114, 97, 121, 32] ++ Lib.itoa g.len else [105, 110, 116] : List UInt8).length ≤ 27 := by split <;> simp <;> omega
  simp only [globT, globK, List.length_append, List.length_cons, List.length_nil]; omega
theorem proc_le {x : Proc} (h : WFP x) : (procT x).length ≤ 80 * (procK x).length := by
  have h1 := h.name.2.2
  have h3 : (star x.seen).length ≤ 1 := by cases x.seen <;> decide
  have h4 := names_le12 x.params h.params
  have h5 := head_le (w := [118, 97, 114]) (by decide) h.vars
  have h6 := stmts_le x.body 10 h.body [32, 32] (by decide)
  simp only [List.cons_append, List.nil_append] at h5
  simp only [procT, procK, List.length_append, List.length_cons, List.length_nil, List.cons_append, List.nil_append] at h5 ⊢; omega
theorem flat_le {α : Type} {f : α → List UInt8} {g : α → List (List UInt8)} {P : α → Prop} (h : ∀ x, P x → (f x).length ≤ 80 * (g x).length) : ∀ l : List α, (∀ x ∈ l, P x) → (l.flatMap f).length ≤ 80 * (l.flatMap g).length
  | [], _ => by simp
  | x :: r, hl => by
    have h1 := h x (hl x (by simp))
    have h2 := flat_le h r (fun y hy => hl y (by simp [hy]))
    rw [List.flatMap_cons, List.flatMap_cons, List.length_append, List.length_append]; omega
theorem mod_le {m : Mod} (h : WFM m) : (modT m).length ≤ 80 * (modK m).length := by
  have h1 := h.name.2.2
  have h5 := head_le (w := [105, 109, 112, 111, 114, 116]) (by decide) h.imports
  have h6 := stmts_le m.body 10 h.body [32, 32] (by decide)
  have h7 := flat_le (f := globT) (g := globK) (fun x hx => glob_le hx) m.vars h.vars
  have h8 := flat_le (f := procT) (g := procK) (fun x hx => proc_le hx) m.procs h.procs
  rw [show modT m = [109, 111, 100, 117, 108, 101, 32] ++ m.name ++ [59, 10] ++ (if m.imports = [] then [] else [105, 109, 112, 111, 114, 116] ++ [32] ++ Lib.join m.imports [44, 32] ++ [59, 10]) ++ m.vars.flatMap globT ++ m.procs.flatMap procT ++ [98, 101, 103, 105, 110, 10] ++ stmtsT m.body [32, 32] ++ [101, 110, 100, 46, 10] from rfl]
  generalize (if m.imports = [] then [] else [105, 109, 112, 111, 114, 116] ++ [32] ++ Lib.join m.imports [44, 32] ++ [59, 10] : List UInt8) = I at h5 ⊢
  simp only [modK, List.length_append, List.length_cons, List.length_nil]; omega
theorem parse_le {l : List UInt8} {m : Mod} (h : parse l = .ok m) : WFM m ∧ (modT m).length ≤ 80 * l.length := by
  obtain ⟨h1, h2⟩ := parse_sp h
  have := mod_le h1
  exact ⟨h1, by omega⟩
end Go.Mq.Tree
