/- Modules in memory: what lies where; and that it lies there still where other blocks change. -/
import Derived.Test.YtgnfhognbpifiaaGreatDoorProg
import Derived.Test.YtgnfhognbpifiaaGreatDoorTreePure
import Derived.Lib.LaidTab
import Derived.Lib.ItoaNum
namespace Go.Mq.Tree
open Go Go.RowKit Go.Mq
abbrev str (l : List UInt8) : Value := .string (bs l)
abbrev ptr (b : Nat) : Value := .pointer (some ⟨b, 0, none⟩)
abbrev nilp : Value := .pointer none
abbrev nils : Value := .slice none 0 0
def Tok.cells (t : Tok) : List Value := [.int .i64 t.kind.num, str t.text, .int .i64 t.pos]
def toksCells (z : Nat) : List Tok → List Value
  | [] => [.int .i64 4, str [], .int .i64 z]
  | t :: r => t.cells ++ toksCells z r

/-- Cells that lie in a row, in blocks of F; n: how many elements, c: for how many there is room. -/
structure Row (w : World) (F : Nat → Prop) (a : Option Addr) (cs : List Value) : Prop where
  at_ : At w a cs
  own : 0 < cs.length → ∀ p, a = some p → F p.block
theorem Row.kept {S : List Nat} {w w' : World} {F : Nat → Prop} {a : Option Addr} {cs : List Value} (h : Row w F a cs) (hc : Chg S w w') (hS : ∀ x ∈ S, ¬ F x) : Row w' F a cs :=
  ⟨fun h0 => (h.at_.kept hc fun p hp hm => hS _ hm (h.own h0 p hp)) h0, h.own⟩
theorem Row.mono {w : World} {F G : Nat → Prop} {a : Option Addr} {cs : List Value} (h : Row w F a cs) (hF : ∀ x, F x → G x) : Row w G a cs := ⟨h.at_, fun h0 p hp => hF _ (h.own h0 p hp)⟩
theorem Row.nil (w : World) (F : Nat → Prop) (a : Option Addr) : Row w F a [] := ⟨fun h => by simp at h, fun h => by simp at h⟩
theorem Row.of_owns {w : World} {e : TypeId} {size n : Nat} {v : Value} {xs : List Value} {F : Nat → Prop} (h : w.ownsRow 0 e size v n xs) (hF : ∀ g ∈ blk v, F g) : ∃ a c, v = .slice a n c ∧ n ≤ c ∧ Row w F a xs := by
  rcases h.2 with ⟨rfl, rfl⟩ | ⟨g, cap, cur, rfl, _, hg, hnc, _, _, htake⟩
  · have hx : xs = [] := List.eq_nil_of_length_eq_zero (by simpa using h.1)
    subst hx
    exact ⟨none, 0, rfl, Nat.le_refl _, Row.nil _ _ _⟩
  · refine ⟨_, cap, rfl, hnc, fun _ => ⟨g, 0, rfl, fun i x hx => ?_⟩, fun _ p hp => by cases hp; exact hF g (by simp [blk])⟩
    have hc := h.cells (g := g) rfl i x hx
    cases i <;> simpa [Addr.add] using hc

/-! ### Expressions -/
/-- An expression (the value: a pointer to it), or expressions, in blocks of F. -/
def EAt (w : World) (F : Nat → Prop) : E → List Value → Prop
  | .num p n, us => ∃ b, us = [ptr b] ∧ F b ∧ Blk w b #[.int .i64 1, .int .i64 p, .int .i64 n, str [], str [], str [], nilp, nilp, nils] 94
  | .var p m n, us => ∃ b, us = [ptr b] ∧ F b ∧ Blk w b #[.int .i64 2, .int .i64 p, .int .i64 0, str m, str n, str [], nilp, nilp, nils] 94
  | .item p m n i, us => ∃ b u, us = [ptr b] ∧ F b ∧ Blk w b #[.int .i64 3, .int .i64 p, .int .i64 0, str m, str n, str [], u, nilp, nils] 94 ∧ EAt w F i [u]
  | .un p op x, us => ∃ b u, us = [ptr b] ∧ F b ∧ Blk w b #[.int .i64 4, .int .i64 p, .int .i64 0, str [], str [], str op, u, nilp, nils] 94 ∧ EAt w F x [u]
  | .bin p op x y, us => ∃ b u v, us = [ptr b] ∧ F b ∧ Blk w b #[.int .i64 5, .int .i64 p, .int .i64 0, str [], str [], str op, u, v, nils] 94 ∧ EAt w F x [u] ∧ EAt w F y [v]
  | .app p m n l, us => ∃ b a c vs, us = [ptr b] ∧ F b ∧ Blk w b #[.int .i64 6, .int .i64 p, .int .i64 0, str m, str n, str [], nilp, nilp, .slice a vs.length c] 94 ∧ vs.length ≤ c ∧ Row w F a vs ∧ EAt w F l vs
  | .nil, us => us = []
  | .cons x r, us => ∃ u vs, us = u :: vs ∧ EAt w F x [u] ∧ EAt w F r vs
theorem EAt.mono {w : World} {F G : Nat → Prop} (hF : ∀ x, F x → G x) {e : E} : ∀ {us : List Value}, EAt w F e us → EAt w G e us := by
  induction e with
  | num p n => rintro us ⟨b, h1, h2, h3⟩; exact ⟨b, h1, hF _ h2, h3⟩
  | var p m n => rintro us ⟨b, h1, h2, h3⟩; exact ⟨b, h1, hF _ h2, h3⟩
  | item p m n i ih => rintro us ⟨b, u, h1, h2, h3, h4⟩; exact ⟨b, u, h1, hF _ h2, h3, ih h4⟩
  | un p op x ih => rintro us ⟨b, u, h1, h2, h3, h4⟩; exact ⟨b, u, h1, hF _ h2, h3, ih h4⟩
  | bin p op x y ih1 ih2 => rintro us ⟨b, u, v, h1, h2, h3, h4, h5⟩; exact ⟨b, u, v, h1, hF _ h2, h3, ih1 h4, ih2 h5⟩
  | app p m n l ih => rintro us ⟨b, a, c, vs, h1, h2, h3, h4, h5, h6⟩; exact ⟨b, a, c, vs, h1, hF _ h2, h3, h4, h5.mono hF, ih h6⟩
  | nil => exact fun h => h
  | cons x r ih1 ih2 => rintro us ⟨u, vs, h1, h2, h3⟩; exact ⟨u, vs, h1, ih1 h2, ih2 h3⟩
theorem EAt.kept {S : List Nat} {w w' : World} {F : Nat → Prop} (hc : Chg S w w') (hS : ∀ x ∈ S, ¬ F x) {e : E} : ∀ {us : List Value}, EAt w F e us → EAt w' F e us := by
  have kb : ∀ {b : Nat} {cs : Array Value} {t : TypeId}, F b → Blk w b cs t → Blk w' b cs t := fun hb h => h.kept hc fun hm => hS _ hm hb
  induction e with
  | num p n => rintro us ⟨b, h1, h2, h3⟩; exact ⟨b, h1, h2, kb h2 h3⟩
  | var p m n => rintro us ⟨b, h1, h2, h3⟩; exact ⟨b, h1, h2, kb h2 h3⟩
  | item p m n i ih => rintro us ⟨b, u, h1, h2, h3, h4⟩; exact ⟨b, u, h1, h2, kb h2 h3, ih h4⟩
  | un p op x ih => rintro us ⟨b, u, h1, h2, h3, h4⟩; exact ⟨b, u, h1, h2, kb h2 h3, ih h4⟩
  | bin p op x y ih1 ih2 => rintro us ⟨b, u, v, h1, h2, h3, h4, h5⟩; exact ⟨b, u, v, h1, h2, kb h2 h3, ih1 h4, ih2 h5⟩
  | app p m n l ih => rintro us ⟨b, a, c, vs, h1, h2, h3, h4, h5, h6⟩; exact ⟨b, a, c, vs, h1, h2, kb h2 h3, h4, h5.kept hc hS, ih h6⟩
  | nil => exact fun h => h
  | cons x r ih1 ih2 => rintro us ⟨u, vs, h1, h2, h3⟩; exact ⟨u, vs, h1, ih1 h2, ih2 h3⟩
/-- Expressions, one by one. -/
def EsAt (w : World) (F : Nat → Prop) : List E → List Value → Prop
  | [], us => us = []
  | x :: r, us => ∃ u vs, us = u :: vs ∧ EAt w F x [u] ∧ EsAt w F r vs
theorem EsAt.one {w : World} {F : Nat → Prop} {l : List E} {us : List Value} (h : EsAt w F l us) : EAt w F (E.ofList l) us := by
  induction l generalizing us with
  | nil => exact h
  | cons x r ih => obtain ⟨u, vs, h1, h2, h3⟩ := h; exact ⟨u, vs, h1, h2, ih h3⟩
theorem EsAt.len {w : World} {F : Nat → Prop} {l : List E} {us : List Value} (h : EsAt w F l us) : us.length = l.length := by
  induction l generalizing us with
  | nil => rw [show us = [] from h]; rfl
  | cons x r ih => obtain ⟨u, vs, rfl, _, h3⟩ := h; simp [ih h3]
theorem EsAt.snoc {w : World} {F : Nat → Prop} {l : List E} {us : List Value} {x : E} {u : Value} (h : EsAt w F l us) (hx : EAt w F x [u]) : EsAt w F (l ++ [x]) (us ++ [u]) := by
  induction l generalizing us with
  | nil => rw [show us = [] from h]; exact ⟨u, [], rfl, hx, rfl⟩
  | cons y r ih => obtain ⟨v, vs, rfl, h2, h3⟩ := h; exact ⟨v, vs ++ [u], rfl, h2, ih h3⟩
theorem EsAt.mono {w : World} {F G : Nat → Prop} (hF : ∀ x, F x → G x) {l : List E} {us : List Value} (h : EsAt w F l us) : EsAt w G l us := by
  induction l generalizing us with
  | nil => exact h
  | cons x r ih => obtain ⟨u, vs, h1, h2, h3⟩ := h; exact ⟨u, vs, h1, h2.mono hF, ih h3⟩
theorem EsAt.kept {S : List Nat} {w w' : World} {F : Nat → Prop} (hc : Chg S w w') (hS : ∀ x ∈ S, ¬ F x) {l : List E} {us : List Value} (h : EsAt w F l us) : EsAt w' F l us := by
  induction l generalizing us with
  | nil => exact h
  | cons x r ih => obtain ⟨u, vs, h1, h2, h3⟩ := h; exact ⟨u, vs, h1, h2.kept hc hS, ih h3⟩

/-! ### Statements -/
def OptAt (w : World) (F : Nat → Prop) : Option E → Value → Prop
  | none, u => u = nilp
  | some x, u => EAt w F x [u]
theorem OptAt.mono {w : World} {F G : Nat → Prop} (hF : ∀ x, F x → G x) {i : Option E} {u : Value} (h : OptAt w F i u) : OptAt w G i u := by
  cases i with
  | none => exact h
  | some x => exact EAt.mono hF h
theorem OptAt.kept {S : List Nat} {w w' : World} {F : Nat → Prop} (hc : Chg S w w') (hS : ∀ x ∈ S, ¬ F x) {i : Option E} {u : Value} (h : OptAt w F i u) : OptAt w' F i u := by
  cases i with
  | none => exact h
  | some x => exact EAt.kept hc hS h
/-- The cells of statements (7 each). -/
def SAt (w : World) (F : Nat → Prop) : S → List Value → Prop
  | .nil, cs => cs = []
  | .set p n i v r, cs => ∃ ui uv cs', cs = .int .i64 1 :: .int .i64 p :: str n :: ui :: uv :: nils :: nils :: cs' ∧ OptAt w F i ui ∧ EAt w F v [uv] ∧ SAt w F r cs'
  | .ifs p v t e r, cs => ∃ uv a1 c1 ts a2 c2 es cs', cs = .int .i64 2 :: .int .i64 p :: str [] :: nilp :: uv :: .slice a1 t.len c1 :: .slice a2 e.len c2 :: cs' ∧ EAt w F v [uv] ∧
      t.len ≤ c1 ∧ Row w F a1 ts ∧ SAt w F t ts ∧ e.len ≤ c2 ∧ Row w F a2 es ∧ SAt w F e es ∧ SAt w F r cs'
  | .whil p v t r, cs => ∃ uv a1 c1 ts cs', cs = .int .i64 3 :: .int .i64 p :: str [] :: nilp :: uv :: .slice a1 t.len c1 :: nils :: cs' ∧ EAt w F v [uv] ∧ t.len ≤ c1 ∧ Row w F a1 ts ∧ SAt w F t ts ∧ SAt w F r cs'
  | .ret p v r, cs => ∃ uv cs', cs = .int .i64 4 :: .int .i64 p :: str [] :: nilp :: uv :: nils :: nils :: cs' ∧ EAt w F v [uv] ∧ SAt w F r cs'
  | .wri p v r, cs => ∃ uv cs', cs = .int .i64 5 :: .int .i64 p :: str [] :: nilp :: uv :: nils :: nils :: cs' ∧ EAt w F v [uv] ∧ SAt w F r cs'
  | .call p v r, cs => ∃ uv cs', cs = .int .i64 6 :: .int .i64 p :: str [] :: nilp :: uv :: nils :: nils :: cs' ∧ EAt w F v [uv] ∧ SAt w F r cs'
theorem SAt.mono {w : World} {F G : Nat → Prop} (hF : ∀ x, F x → G x) {s : S} : ∀ {cs : List Value}, SAt w F s cs → SAt w G s cs := by
  induction s with
  | nil => exact fun h => h
  | set p n i v r ih => rintro cs ⟨ui, uv, cs', h1, h2, h3, h4⟩; exact ⟨ui, uv, cs', h1, h2.mono hF, h3.mono hF, ih h4⟩
  | ifs p v t e r ih1 ih2 ih3 => rintro cs ⟨uv, a1, c1, ts, a2, c2, es, cs', h1, h2, h3, h4, h5, h6, h7, h8, h9⟩; exact ⟨uv, a1, c1, ts, a2, c2, es, cs', h1, h2.mono hF, h3, h4.mono hF, ih1 h5, h6, h7.mono hF, ih2 h8, ih3 h9⟩
  | whil p v t r ih1 ih2 => rintro cs ⟨uv, a1, c1, ts, cs', h1, h2, h3, h4, h5, h6⟩; exact ⟨uv, a1, c1, ts, cs', h1, h2.mono hF, h3, h4.mono hF, ih1 h5, ih2 h6⟩
  | ret p v r ih => rintro cs ⟨uv, cs', h1, h2, h3⟩; exact ⟨uv, cs', h1, h2.mono hF, ih h3⟩
  | wri p v r ih => rintro cs ⟨uv, cs', h1, h2, h3⟩; exact ⟨uv, cs', h1, h2.mono hF, ih h3⟩
  | call p v r ih => rintro cs ⟨uv, cs', h1, h2, h3⟩; exact ⟨uv, cs', h1, h2.mono hF, ih h3⟩
theorem SAt.kept {S' : List Nat} {w w' : World} {F : Nat → Prop} (hc : Chg S' w w') (hS : ∀ x ∈ S', ¬ F x) {s : S} : ∀ {cs : List Value}, SAt w F s cs → SAt w' F s cs := by
  induction s with
  | nil => exact fun h => h
  | set p n i v r ih => rintro cs ⟨ui, uv, cs', h1, h2, h3, h4⟩; exact ⟨ui, uv, cs', h1, h2.kept hc hS, h3.kept hc hS, ih h4⟩
  | ifs p v t e r ih1 ih2 ih3 => rintro cs ⟨uv, a1, c1, ts, a2, c2, es, cs', h1, h2, h3, h4, h5, h6, h7, h8, h9⟩; exact ⟨uv, a1, c1, ts, a2, c2, es, cs', h1, h2.kept hc hS, h3, h4.kept hc hS, ih1 h5, h6, h7.kept hc hS, ih2 h8, ih3 h9⟩
  | whil p v t r ih1 ih2 => rintro cs ⟨uv, a1, c1, ts, cs', h1, h2, h3, h4, h5, h6⟩; exact ⟨uv, a1, c1, ts, cs', h1, h2.kept hc hS, h3, h4.kept hc hS, ih1 h5, ih2 h6⟩
  | ret p v r ih => rintro cs ⟨uv, cs', h1, h2, h3⟩; exact ⟨uv, cs', h1, h2.kept hc hS, ih h3⟩
  | wri p v r ih => rintro cs ⟨uv, cs', h1, h2, h3⟩; exact ⟨uv, cs', h1, h2.kept hc hS, ih h3⟩
  | call p v r ih => rintro cs ⟨uv, cs', h1, h2, h3⟩; exact ⟨uv, cs', h1, h2.kept hc hS, ih h3⟩
theorem SAt.len {w : World} {F : Nat → Prop} {s : S} : ∀ {cs : List Value}, SAt w F s cs → cs.length = s.len * 7 := by
  induction s with
  | nil => intro cs h; rw [show cs = [] from h]; rfl
  | set p n i v r ih => rintro cs ⟨ui, uv, cs', rfl, h2, h3, h4⟩; simp [S.len, ih h4]; omega
  | ifs p v t e r ih1 ih2 ih3 => rintro cs ⟨uv, a1, c1, ts, a2, c2, es, cs', rfl, h2, h3, h4, h5, h6, h7, h8, h9⟩; simp [S.len, ih3 h9]; omega
  | whil p v t r ih1 ih2 => rintro cs ⟨uv, a1, c1, ts, cs', rfl, h2, h3, h4, h5, h6⟩; simp [S.len, ih2 h6]; omega
  | ret p v r ih => rintro cs ⟨uv, cs', rfl, h2, h3⟩; simp [S.len, ih h3]; omega
  | wri p v r ih => rintro cs ⟨uv, cs', rfl, h2, h3⟩; simp [S.len, ih h3]; omega
  | call p v r ih => rintro cs ⟨uv, cs', rfl, h2, h3⟩; simp [S.len, ih h3]; omega
theorem SAt.append {w : World} {F : Nat → Prop} {s s2 : S} {cs2 : List Value} (k : SAt w F s2 cs2) : ∀ {cs : List Value}, SAt w F s cs → SAt w F (s.app s2) (cs ++ cs2) := by
  induction s with
  | nil => intro cs h; rw [show cs = [] from h]; exact k
  | set p n i v r ih => rintro cs ⟨ui, uv, cs', rfl, h2, h3, h4⟩; exact ⟨ui, uv, cs' ++ cs2, rfl, h2, h3, ih h4⟩
  | ifs p v t e r ih1 ih2 ih3 => rintro cs ⟨uv, a1, c1, ts, a2, c2, es, cs', rfl, h2, h3, h4, h5, h6, h7, h8, h9⟩; exact ⟨uv, a1, c1, ts, a2, c2, es, cs' ++ cs2, rfl, h2, h3, h4, h5, h6, h7, h8, ih3 h9⟩
  | whil p v t r ih1 ih2 => rintro cs ⟨uv, a1, c1, ts, cs', rfl, h2, h3, h4, h5, h6⟩; exact ⟨uv, a1, c1, ts, cs' ++ cs2, rfl, h2, h3, h4, h5, ih2 h6⟩
  | ret p v r ih => rintro cs ⟨uv, cs', rfl, h2, h3⟩; exact ⟨uv, cs' ++ cs2, rfl, h2, ih h3⟩
  | wri p v r ih => rintro cs ⟨uv, cs', rfl, h2, h3⟩; exact ⟨uv, cs' ++ cs2, rfl, h2, ih h3⟩
  | call p v r ih => rintro cs ⟨uv, cs', rfl, h2, h3⟩; exact ⟨uv, cs' ++ cs2, rfl, h2, ih h3⟩
theorem S.app_len (s s2 : S) : (s.app s2).len = s.len + s2.len := by
  induction s with
  | nil => simp [S.app, S.len]
  | set p n i v r ih => simp [S.app, S.len, ih]; omega
  | ifs p v t e r ih1 ih2 ih3 => simp [S.app, S.len, ih3]; omega
  | whil p v t r ih1 ih2 => simp [S.app, S.len, ih2]; omega
  | ret p v r ih => simp [S.app, S.len, ih]; omega
  | wri p v r ih => simp [S.app, S.len, ih]; omega
  | call p v r ih => simp [S.app, S.len, ih]; omega

/-! ### Slices of these, and modules -/
/-- A slice of statements. -/
def SlAt (w : World) (F : Nat → Prop) (s : S) (v : Value) : Prop := ∃ a c cs, v = .slice a s.len c ∧ s.len ≤ c ∧ Row w F a cs ∧ SAt w F s cs
def NamesAt (w : World) (F : Nat → Prop) (l : List (List UInt8)) (v : Value) : Prop := ∃ a c, v = .slice a l.length c ∧ l.length ≤ c ∧ Row w F a (l.map str)
def Glob.cells (g : Glob) : List Value := [str g.name, .int .i64 g.pos, .int .i64 g.len, .bool g.seen]
def GlobsAt (w : World) (F : Nat → Prop) (l : List Glob) (v : Value) : Prop := ∃ a c, v = .slice a l.length c ∧ l.length ≤ c ∧ Row w F a (l.flatMap Glob.cells)
def PrAt (w : World) (F : Nat → Prop) (x : Proc) (cs : List Value) : Prop := ∃ vp vv vb, cs = [str x.name, .int .i64 x.pos, .bool x.seen, vp, vv, vb] ∧ NamesAt w F x.params vp ∧ NamesAt w F x.vars vv ∧ SlAt w F x.body vb
def PrsAt (w : World) (F : Nat → Prop) : List Proc → List Value → Prop
  | [], cs => cs = []
  | x :: r, cs => ∃ c1 c2, cs = c1 ++ c2 ∧ PrAt w F x c1 ∧ PrsAt w F r c2
def ProcsAt (w : World) (F : Nat → Prop) (l : List Proc) (v : Value) : Prop := ∃ a c cs, v = .slice a l.length c ∧ l.length ≤ c ∧ Row w F a cs ∧ PrsAt w F l cs
/-- A module's five parts. -/
def ModAt (w : World) (F : Nat → Prop) (m : Mod) (v : Value) : Prop := ∃ vi vv vp vb, v = .agg #[str m.name, vi, vv, vp, vb] ∧ NamesAt w F m.imports vi ∧ GlobsAt w F m.vars vv ∧ ProcsAt w F m.procs vp ∧ SlAt w F m.body vb

section
variable {w w' : World} {F G : Nat → Prop} {Z : List Nat}
theorem SlAt.mono (hF : ∀ x, F x → G x) {s : S} {v : Value} (h : SlAt w F s v) : SlAt w G s v := by
  obtain ⟨a, c, cs, h1, h2, h3, h4⟩ := h; exact ⟨a, c, cs, h1, h2, h3.mono hF, h4.mono hF⟩
theorem SlAt.kept (hc : Chg Z w w') (hS : ∀ x ∈ Z, ¬ F x) {s : S} {v : Value} (h : SlAt w F s v) : SlAt w' F s v := by
  obtain ⟨a, c, cs, h1, h2, h3, h4⟩ := h; exact ⟨a, c, cs, h1, h2, h3.kept hc hS, h4.kept hc hS⟩
theorem NamesAt.mono (hF : ∀ x, F x → G x) {l : List (List UInt8)} {v : Value} (h : NamesAt w F l v) : NamesAt w G l v := by
  obtain ⟨a, c, h1, h2, h3⟩ := h; exact ⟨a, c, h1, h2, h3.mono hF⟩
theorem NamesAt.kept (hc : Chg Z w w') (hS : ∀ x ∈ Z, ¬ F x) {l : List (List UInt8)} {v : Value} (h : NamesAt w F l v) : NamesAt w' F l v := by
  obtain ⟨a, c, h1, h2, h3⟩ := h; exact ⟨a, c, h1, h2, h3.kept hc hS⟩
theorem NamesAt.nil : NamesAt w F [] nils := ⟨none, 0, rfl, Nat.le_refl _, Row.nil _ _ _⟩
theorem GlobsAt.mono (hF : ∀ x, F x → G x) {l : List Glob} {v : Value} (h : GlobsAt w F l v) : GlobsAt w G l v := by
  obtain ⟨a, c, h1, h2, h3⟩ := h; exact ⟨a, c, h1, h2, h3.mono hF⟩
theorem GlobsAt.kept (hc : Chg Z w w') (hS : ∀ x ∈ Z, ¬ F x) {l : List Glob} {v : Value} (h : GlobsAt w F l v) : GlobsAt w' F l v := by
  obtain ⟨a, c, h1, h2, h3⟩ := h; exact ⟨a, c, h1, h2, h3.kept hc hS⟩
theorem PrAt.mono (hF : ∀ x, F x → G x) {x : Proc} {cs : List Value} (h : PrAt w F x cs) : PrAt w G x cs := by
  obtain ⟨vp, vv, vb, h1, h2, h3, h4⟩ := h; exact ⟨vp, vv, vb, h1, h2.mono hF, h3.mono hF, h4.mono hF⟩
theorem PrAt.kept (hc : Chg Z w w') (hS : ∀ x ∈ Z, ¬ F x) {x : Proc} {cs : List Value} (h : PrAt w F x cs) : PrAt w' F x cs := by
  obtain ⟨vp, vv, vb, h1, h2, h3, h4⟩ := h; exact ⟨vp, vv, vb, h1, h2.kept hc hS, h3.kept hc hS, h4.kept hc hS⟩
theorem PrsAt.mono (hF : ∀ x, F x → G x) {l : List Proc} {cs : List Value} (h : PrsAt w F l cs) : PrsAt w G l cs := by
  induction l generalizing cs with
  | nil => exact h
  | cons x r ih => obtain ⟨c1, c2, h1, h2, h3⟩ := h; exact ⟨c1, c2, h1, h2.mono hF, ih h3⟩
theorem PrsAt.kept (hc : Chg Z w w') (hS : ∀ x ∈ Z, ¬ F x) {l : List Proc} {cs : List Value} (h : PrsAt w F l cs) : PrsAt w' F l cs := by
  induction l generalizing cs with
  | nil => exact h
  | cons x r ih => obtain ⟨c1, c2, h1, h2, h3⟩ := h; exact ⟨c1, c2, h1, h2.kept hc hS, ih h3⟩
theorem PrsAt.snoc {l : List Proc} {cs : List Value} {x : Proc} {c : List Value} (h : PrsAt w F l cs) (hx : PrAt w F x c) : PrsAt w F (l ++ [x]) (cs ++ c) := by
  induction l generalizing cs with
  | nil => rw [show cs = [] from h]; exact ⟨c, [], by simp, hx, rfl⟩
  | cons y r ih => obtain ⟨c1, c2, rfl, h2, h3⟩ := h; exact ⟨c1, c2 ++ c, by simp, h2, ih h3⟩
theorem PrsAt.len {l : List Proc} {cs : List Value} (h : PrsAt w F l cs) : cs.length = l.length * 6 := by
  induction l generalizing cs with
  | nil => rw [show cs = [] from h]; rfl
  | cons y r ih => obtain ⟨c1, c2, rfl, ⟨_, _, _, rfl, _⟩, h3⟩ := h; simp [ih h3]; omega
theorem ProcsAt.mono (hF : ∀ x, F x → G x) {l : List Proc} {v : Value} (h : ProcsAt w F l v) : ProcsAt w G l v := by
  obtain ⟨a, c, cs, h1, h2, h3, h4⟩ := h; exact ⟨a, c, cs, h1, h2, h3.mono hF, h4.mono hF⟩
theorem ProcsAt.kept (hc : Chg Z w w') (hS : ∀ x ∈ Z, ¬ F x) {l : List Proc} {v : Value} (h : ProcsAt w F l v) : ProcsAt w' F l v := by
  obtain ⟨a, c, cs, h1, h2, h3, h4⟩ := h; exact ⟨a, c, cs, h1, h2, h3.kept hc hS, h4.kept hc hS⟩
theorem ModAt.mono (hF : ∀ x, F x → G x) {m : Mod} {v : Value} (h : ModAt w F m v) : ModAt w G m v := by
  obtain ⟨vi, vv, vp, vb, h1, h2, h3, h4, h5⟩ := h; exact ⟨vi, vv, vp, vb, h1, h2.mono hF, h3.mono hF, h4.mono hF, h5.mono hF⟩
theorem ModAt.kept (hc : Chg Z w w') (hS : ∀ x ∈ Z, ¬ F x) {m : Mod} {v : Value} (h : ModAt w F m v) : ModAt w' F m v := by
  obtain ⟨vi, vv, vp, vb, h1, h2, h3, h4, h5⟩ := h; exact ⟨vi, vv, vp, vb, h1, h2.kept hc hS, h3.kept hc hS, h4.kept hc hS, h5.kept hc hS⟩
end

/-! ### What the program's tables hold; the parser's own block -/
/-- What package tree's tables, and the library's, hold: all below block B. -/
structure Laid (w : World) (B : Nat) : Prop where
  le : B ≤ w.heap.size
  marks : ∀ i m, marks[i]? = some m → w.cell? ⟨1, i, none⟩ = some (str m)
  marksB : 1 < B
  levels : ∀ i l, levels[i]? = some l → ∃ b off c, w.cell? ⟨3, i, none⟩ = some (.slice (some ⟨b, off, none⟩) l.length c) ∧ b < B ∧ l.length ≤ c ∧ ∀ j m, l[j]? = some m → w.cell? ⟨b, off + j, none⟩ = some (str m)
  levelsB : 3 < B
  range : ∃ ev, w.cell? ⟨6, 0, none⟩ = some ev ∧ (ev = .nilIface ∨ ∃ te pe, ev = .iface te pe)
  rangeB : 6 < B
  syn : ∃ ev, w.cell? ⟨5, 0, none⟩ = some ev ∧ (ev = .nilIface ∨ ∃ te pe, ev = .iface te pe)
  synB : 5 < B
  tab : Lib.TabIs Go.Proofs.Tryz.prog w "internal/strconv.uint64pow10" .u64 Lib.pow10Tab
  tabB : 4 < B
theorem Laid.kept {w w' : World} {B : Nat} {Z : List Nat} (h : Laid w B) (hc : Chg Z w w') (hZ : ∀ x ∈ Z, B ≤ x) : Laid w' B := by
  have hn : ∀ b, b < B → b ∉ Z := fun b hb hm => by have := hZ b hm; omega
  refine ⟨Nat.le_trans h.le hc.size, fun i m hm => hc.cellSome (h.marks i m hm) (hn _ h.marksB), h.marksB, fun i l hl => ?_, h.levelsB, ?_, h.rangeB, ?_, h.synB, ?_, h.tabB⟩
  · obtain ⟨b, off, c, h1, h2, h3, h4⟩ := h.levels i l hl
    exact ⟨b, off, c, hc.cellSome h1 (hn _ h.levelsB), h2, h3, fun j m hj => hc.cellSome (h4 j m hj) (hn _ h2)⟩
  · obtain ⟨ev, h1, h2⟩ := h.range
    exact ⟨ev, hc.cellSome h1 (hn _ h.rangeB), h2⟩
  · obtain ⟨ev, h1, h2⟩ := h.syn
    exact ⟨ev, hc.cellSome h1 (hn _ h.synB), h2⟩
  · have ht := h.tab
    unfold Lib.TabIs World.var? at ht ⊢
    rw [show Go.Proofs.Tryz.prog.globalNamed "internal/strconv.uint64pow10" = some 4 by kernel_rfl] at ht ⊢
    simp only [Option.bind_some] at ht ⊢
    rw [hc.block _ (by have := h.le; have := h.tabB; omega) (hn _ h.tabB)]
    exact ht
/-- The parser at block bp has these tokens left, which lie in block bt. -/
structure Par (w : World) (B bp bt z : Nat) (ts : List Tok) : Prop where
  laid : Laid w B
  bpB : B ≤ bp
  btB : B ≤ bt
  ne : bt ≠ bp
  few : ts.length ≤ 600
  short : ∀ t ∈ ts, t.text.length ≤ 1099511627776
  at_ : ∃ off c, Blk w bp #[.slice (some ⟨bt, off, none⟩) (ts.length + 1) c] 73 ∧ ts.length + 1 ≤ c ∧ ∀ i v, (toksCells z ts)[i]? = some v → w.cell? ⟨bt, off + i, none⟩ = some v
theorem Par.kept {w w' : World} {B bp bt z : Nat} {ts : List Tok} {Z : List Nat} (h : Par w B bp bt z ts) (hc : Chg Z w w') (hZ : ∀ x ∈ Z, B ≤ x) (h1 : bp ∉ Z) (h2 : bt ∉ Z) : Par w' B bp bt z ts := by
  obtain ⟨off, c, hb, hl, hcell⟩ := h.at_
  exact ⟨h.laid.kept hc hZ, h.bpB, h.btB, h.ne, h.few, h.short, off, c, hb.kept hc h1, hl, fun i v hv => hc.cellSome (hcell i v hv) h2⟩
/-- How a method of the parser's ends: with a value and fewer tokens, or it throws what is wrong. -/
def Ended {α : Type} (w : World) (B bp bt z : Nat) (r : R α) (V : World → α → Value → Prop) (e : Ending) (w' : World) : Prop := Chg [bp] w w' ∧ match r with
  | .ok a ts => ∃ v, e = .returned v ∧ V w' a v ∧ Par w' B bp bt z ts
  | .bad en p => ∃ b, e = .panicked [{ v := .iface 66 (.agg #[.iface 124 (ptr b)]), recovered := false }] ∧ w.heap.size ≤ b ∧ Blk w' b #[.int .i64 en, .int .i64 p] 126
/-- Blocks that are new. -/
abbrev New (w w' : World) : Nat → Prop := fun b => w.heap.size ≤ b ∧ b < w'.heap.size
end Go.Mq.Tree
