/- The printer's pieces: numbers, joins, at's mark, and what lists of expressions are. -/
import Derived.Test.YtdlhjcnmpcligaaDoorTreeP1
import Derived.Test.YtdlhjcnmpcligaaDoorTreeLaw6
import Derived.Test.YtdlhjcnmpcligaaDoorAppendAny
import Derived.Lib.AppendStr
namespace Go.Mq.Tree
open Go Go.RowKit Go.Mq
theorem grow_chg (w : World) (n : Nat) (os : Array Obj) : Chg [] w (Go.Sort.grow (w.drewN n) os) := by
  refine ⟨rfl, rfl, rfl, by simp [Go.Sort.grow, World.drewN], fun k hk _ => ?_⟩
  simp only [Go.Sort.grow, World.drewN]
  rw [Array.getElem?_append_left hk]
/-- The expressions of a list. -/
def E.list : E → List E
  | .cons x r => x :: r.list
  | _ => []
theorem text_list : ∀ l : E, l.isL → WF l → text l = Lib.join (l.list.map text) [44, 32]
  | .nil, _, _ => rfl
  | .cons x .nil, _, _ => by simp only [text, E.list, List.map_cons, List.map_nil, Lib.join_one]
  | .cons x (.cons y r), _, h => by
    have ih := text_list (.cons y r) trivial h.2.1
    simp only [E.list, List.map_cons] at ih ⊢
    rw [join_more, ← ih]
    simp only [text, List.append_assoc]
  | .cons x (.num ..), _, h => by have := h.2.2; exact this.elim
  | .cons x (.var ..), _, h => by have := h.2.2; exact this.elim
  | .cons x (.item ..), _, h => by have := h.2.2; exact this.elim
  | .cons x (.un ..), _, h => by have := h.2.2; exact this.elim
  | .cons x (.bin ..), _, h => by have := h.2.2; exact this.elim
  | .cons x (.app ..), _, h => by have := h.2.2; exact this.elim
theorem join_ge (s : List UInt8) (hs : 1 ≤ s.length) : ∀ xs : List (List UInt8), xs.length ≤ (Lib.join xs s).length + 1 ∧ ∀ x ∈ xs, x.length ≤ (Lib.join xs s).length
  | [] => ⟨by simp, fun x hx => by cases hx⟩
  | [x] => ⟨by simp, fun y hy => by simp at hy; subst hy; rw [Lib.join_one]; exact Nat.le_refl _⟩
  | x :: y :: r => by
    have ih := join_ge s hs (y :: r)
    have e := congrArg List.length (join_more x y r s)
    simp only [List.length_append] at e
    refine ⟨by have := ih.1; simp only [List.length_cons] at this ⊢; omega, fun z hz => ?_⟩
    simp only [List.mem_cons] at hz
    rcases hz with rfl | hz
    · omega
    · have := ih.2 z (by simpa using hz); omega
theorem EAt.elems {w : World} {F : Nat → Prop} : ∀ (l : E) (vs : List Value), l.isL → WF l → EAt w F l vs → vs.length = l.list.length ∧ ∀ (i : Nat) (y : E), l.list[i]? = some y → ∃ u : Value, vs[i]? = some u ∧ EAt w F y [u]
  | .nil, vs, _, _, h => by
    have : vs = [] := h
    subst this
    exact ⟨rfl, fun i y hy => by simp [E.list] at hy⟩
  | .cons x r, vs, _, hw, h => by
    obtain ⟨u, us, rfl, h1, h2⟩ := h
    obtain ⟨i1, i2⟩ := EAt.elems r us hw.2.2 hw.2.1 h2
    refine ⟨by simp [E.list, i1], fun i y hy => ?_⟩
    cases i with
    | zero => simp [E.list] at hy; subst hy; exact ⟨u, rfl, h1⟩
    | succ i => simp [E.list] at hy; obtain ⟨v, h3, h4⟩ := i2 i y hy; exact ⟨v, by simpa using h3, h4⟩
theorem wf_list : ∀ l : E, l.isL → WF l → ∀ y ∈ l.list, WF y ∧ y.isX
  | .nil, _, _ => fun y hy => by cases hy
  | .cons x r, _, hw => fun y hy => by
    simp only [E.list, List.mem_cons] at hy
    rcases hy with rfl | hy
    · exact hw.1
    · exact wf_list r hw.2.2 hw.2.1 y hy
theorem within_ge (lv : Nat) (x : E) (t : List UInt8) : t.length ≤ (within lv x t).length := by
  rw [within]; split
  · exact Nat.le_refl _
  · simp; omega
theorem Row.cells_str {w : World} {F : Nat → Prop} {a : Option Addr} {l : List (List UInt8)} (h : Row w F a (l.map str)) (h0 : l ≠ []) : ∃ b o, a = some ⟨b, o, none⟩ ∧ F b ∧ b < w.heap.size ∧ ∀ (j : Nat) x, (l.map bs)[j]? = some x → w.cell? ⟨b, o + j, none⟩ = some (.string x) := by
  have hl : 0 < (l.map str).length := by cases l with | nil => exact absurd rfl h0 | cons x r => simp
  obtain ⟨b, o, rfl, hc⟩ := h.at_ hl
  have hc' : ∀ (j : Nat) x, (l.map bs)[j]? = some x → w.cell? ⟨b, o + j, none⟩ = some (.string x) := fun j x hx => by
    refine hc j _ ?_
    simp only [List.getElem?_map, Option.map_eq_some_iff] at hx ⊢
    obtain ⟨y, hy, rfl⟩ := hx
    exact ⟨y, hy, rfl⟩
  refine ⟨b, o, rfl, h.own hl _ rfl, ?_, hc'⟩
  cases l with
  | nil => exact absurd rfl h0
  | cons x r => exact lt_of_cell (hc' 0 (bs x) rfl)
end Go.Mq.Tree
namespace Go.Proofs.YtdlhjcnmpcligaaDoor
open Go Go.RowKit Go.Mq Go.Mq.Tree
set_option maxRecDepth 100000
set_option maxHeartbeats 4000000
theorem fmt_any (n : Int) (h0 : 0 ≤ n) (h1 : n ≤ 9223372036854775807) (w : World) (B : Nat) (hL : Laid w B) : Calls Tryd.prog 44 #[.int .i64 n, .int .i64 10] w (fun e w' => e = .returned (str (Lib.itoa n)) ∧ Chg [] w w') := by
  refine (Any.strconv_FormatInt_10 Tryd.lays173 n (by omega) h1 w hL.tab).mono ?_
  rintro e w' ⟨rfl, k, os, rfl⟩
  exact ⟨rfl, grow_chg _ _ _⟩
theorem itoa_any (n : Int) (h0 : 0 ≤ n) (h1 : n ≤ 9223372036854775807) (w : World) (B : Nat) (hL : Laid w B) : Calls Tryd.prog 16 #[.int .i64 n] w (fun e w' => e = .returned (str (Lib.itoa n)) ∧ Chg [] w w') := by
  refine (Any.strconv_Itoa Tryd.lays171 n (by omega) h1 w hL.tab).mono ?_
  rintro e w' ⟨rfl, k, os, rfl⟩
  exact ⟨rfl, grow_chg _ _ _⟩
theorem extra : Builder.Extra Tryd.prog Tryd.lays156_ren := {
  sizeBuilder := by kernel_rfl
  liesBuilder := by kernel_rfl
  t5 := Tryd.underlying5
  a5 := Tryd.isAgg5
  z5 := Tryd.sizeOf5
  v5 := Tryd.zeroValue5
  infoByte := by kernel_rfl
  cellsByte := by kernel_rfl
  sizeByte := by kernel_rfl
  neB5 := by decide }
theorem join_any (l : List (List UInt8)) (s : List UInt8) (w : World) (F : Nat → Prop) (v : Value) (h : NamesAt w F l v) (hlen : (Lib.join l s).length ≤ 1099511627776) (hn : l.length ≤ 1099511627777) :
    Calls Tryd.prog 15 #[v, str s] w (fun e w' => e = .returned (str (Lib.join l s)) ∧ Chg [] w w') := by
  obtain ⟨a, c, rfl, hc, hr⟩ := h
  by_cases h0 : l = []
  · subst h0
    refine (Any.strings_Join_none Tryd.lays156 extra a c (bs s) w).mono ?_
    rintro e w' ⟨rfl, rfl⟩
    exact ⟨rfl, Chg.refl _ _⟩
  · obtain ⟨b, o, rfl, _, hlt, hcell⟩ := hr.cells_str h0
    have hm : (l.map bs).map (·.data.toList) = l := by simp [Function.comp_def]
    have hml : (l.map bs).length = l.length := by simp
    have := Any.strings_Join Tryd.lays156 extra b o c (l.map bs) (bs s) w hcell hlt (by omega) (by omega) (by rw [hm]; simp; omega)
    rw [hm, hml] at this
    refine this.mono ?_
    rintro e w' ⟨rfl, hb⟩
    exact ⟨by simp, Chg.of_below hb⟩
/-- How much an expression holds together. -/
theorem level_of (x : E) (hx : x.isX) (F : Nat → Prop) (u : Value) (w : World) (B : Nat) (hL : Laid w B) (h : EAt w F x [u]) : Calls Tryd.prog 46 #[u] w (fun e w' => e = .returned (.int .i64 (lvl x)) ∧ w' = w) := by
  cases x with
  | num p n => obtain ⟨b, hb, _, h1⟩ := h; cases hb; exact level_any b 1 (by decide) w (h1.cell 0 _ rfl)
  | var p m n => obtain ⟨b, hb, _, h1⟩ := h; cases hb; exact level_any b 2 (by decide) w (h1.cell 0 _ rfl)
  | item p m n i => obtain ⟨b, _, hb, _, h1, _⟩ := h; cases hb; exact level_any b 3 (by decide) w (h1.cell 0 _ rfl)
  | un p op x => obtain ⟨b, _, hb, _, h1, _⟩ := h; cases hb; exact level_any b 4 (by decide) w (h1.cell 0 _ rfl)
  | bin p op x y => obtain ⟨b, _, _, hb, _, h1, _⟩ := h; cases hb; exact level_bin b op w B (h1.cell 0 _ rfl) (h1.cell 5 _ rfl) hL
  | app p m n l => obtain ⟨b, _, _, _, hb, _, h1, _⟩ := h; cases hb; exact level_any b 6 (by decide) w (h1.cell 0 _ rfl)
  | nil => exact hx.elim
  | cons _ _ => exact hx.elim
end Go.Proofs.YtdlhjcnmpcligaaDoor
