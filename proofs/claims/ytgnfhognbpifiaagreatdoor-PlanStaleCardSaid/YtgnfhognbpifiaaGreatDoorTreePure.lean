/- Modules as text, in plain Lean: tokens, the parser, the printer. No program is named here. -/
import Derived.Test.YtgnfhognbpifiaaGreatDoorCore
import Derived.Lib.ParseIntB
import Derived.Lib.ItoaNum
import Derived.Lib.Join
namespace Go.Mq.Tree
open Go Go.RowKit Go.Mq

inductive Kind where
  | word
  | number
  | mark
  deriving DecidableEq
def Kind.num : Kind → Nat
  | .word => 1
  | .number => 2
  | .mark => 3
/-- A token that is not the end; pos: where it begins. -/
structure Tok where
  kind : Kind
  text : List UInt8
  pos : Nat

/-! ### Tokens -/
def letter (c : UInt8) : Bool := decide (97 ≤ c.toNat) && decide (c.toNat ≤ 122)
def digit (c : UInt8) : Bool := decide (48 ≤ c.toNat) && decide (c.toNat ≤ 57)
def marks : List (List UInt8) := [[58, 61], [60, 61], [62, 61], [35], [61], [60], [62], [43], [45], [42], [40], [41], [91], [93], [44], [59], [58], [46]]
/-- How many bytes from a text's beginning on are so. -/
def howN (f : UInt8 → Bool) : List UInt8 → Nat
  | [] => 0
  | c :: t => if f c then howN f t + 1 else 0
/-- What stands at a text's beginning: its kind, how long it is (0: nothing). -/
def nextK : List UInt8 → Kind × Nat
  | [] => (.mark, 0)
  | c :: t => if letter c then (.word, howN (fun c => letter c || digit c) (c :: t))
    else if digit c then (.number, howN digit (c :: t))
    else (.mark, ((marks.find? fun m => m.isPrefixOf (c :: t)).map List.length).getD 0)
/-- What reading comes to: a value and the tokens that are left; or what is wrong, and where. -/
inductive R (α : Type) where
  | ok (a : α) (ts : List Tok)
  | bad (e : Nat) (pos : Nat)
inductive LexR where
  | ok (ts : List Tok)
  | bad (e : Nat) (pos : Nat)
def gap (c : UInt8) : Bool := c == 32 || c == 10
/-- Tokens of what is left of a text, at i, behind k tokens. -/
def lexL : Nat → Nat → Nat → List UInt8 → LexR
  | 0, _, _, _ => .ok []
  | f + 1, i, k, l => match l with
    | [] => .ok []
    | c :: t => if gap c then lexL f (i + 1) k t
      else if (nextK (c :: t)).2 = 0 then .bad 3 i
      else if k = 600 then .bad 4 i
      else match lexL f (i + (nextK (c :: t)).2) (k + 1) ((c :: t).drop (nextK (c :: t)).2) with
        | .ok ts => .ok (⟨(nextK (c :: t)).1, (c :: t).take (nextK (c :: t)).2, i⟩ :: ts)
        | .bad e p => .bad e p
def lex (l : List UInt8) : LexR := lexL l.length 0 0 l

/-! ### Expressions, statements, modules -/
/-- An expression; or (nil, cons) expressions with a comma between. p: where it begins. -/
inductive E where
  | num (p : Nat) (n : Int)
  | var (p : Nat) (m n : List UInt8)
  | item (p : Nat) (m n : List UInt8) (i : E)
  | un (p : Nat) (op : List UInt8) (x : E)
  | bin (p : Nat) (op : List UInt8) (x y : E)
  | app (p : Nat) (m n : List UInt8) (l : E)
  | nil
  | cons (x r : E)
def E.ofList : List E → E
  | [] => .nil
  | x :: r => .cons x (E.ofList r)
/-- Statements: the first, what is in it, and the others. -/
inductive S where
  | nil
  | set (p : Nat) (n : List UInt8) (i : Option E) (v : E) (r : S)
  | ifs (p : Nat) (v : E) (t e : S) (r : S)
  | whil (p : Nat) (v : E) (t : S) (r : S)
  | ret (p : Nat) (v : E) (r : S)
  | wri (p : Nat) (v : E) (r : S)
  | call (p : Nat) (v : E) (r : S)
def S.app : S → S → S
  | .nil, x => x
  | .set p n i v r, x => .set p n i v (r.app x)
  | .ifs p v t e r, x => .ifs p v t e (r.app x)
  | .whil p v t r, x => .whil p v t (r.app x)
  | .ret p v r, x => .ret p v (r.app x)
  | .wri p v r, x => .wri p v (r.app x)
  | .call p v r, x => .call p v (r.app x)
def S.len : S → Nat
  | .nil => 0
  | .set _ _ _ _ r => r.len + 1
  | .ifs _ _ _ _ r => r.len + 1
  | .whil _ _ _ r => r.len + 1
  | .ret _ _ r => r.len + 1
  | .wri _ _ r => r.len + 1
  | .call _ _ r => r.len + 1
structure Glob where
  name : List UInt8
  pos : Nat
  len : Int
  seen : Bool
structure Proc where
  name : List UInt8
  pos : Nat
  seen : Bool
  params : List (List UInt8)
  vars : List (List UInt8)
  body : S
structure Mod where
  name : List UInt8
  imports : List (List UInt8)
  vars : List Glob
  procs : List Proc
  body : S

/-! ### The parser; z: where the text ends -/
abbrev Ps (α : Type) := List Tok → R α
def R.bind {α β : Type} (r : R α) (f : α → Ps β) : R β := match r with
  | .ok a ts => f a ts
  | .bad e p => .bad e p
def hd (z : Nat) : List Tok → Nat
  | [] => z
  | t :: _ => t.pos
def see (s : List UInt8) : List Tok → Bool
  | [] => false
  | t :: _ => t.text == s
/-- What is left where a text may be taken. -/
def skip (s : List UInt8) (ts : List Tok) : List Tok := if see s ts then ts.tail else ts
def must (z : Nat) (s : List UInt8) : Ps Unit := fun ts => if see s ts then .ok () ts.tail else .bad 3 (hd z ts)
def keptWords : List (List UInt8) := [[109, 111, 100, 117, 108, 101], [105, 109, 112, 111, 114, 116], [118, 97, 114], [112, 114, 111, 99], [98, 101, 103, 105, 110], [101, 110, 100], [105, 102], [116, 104, 101, 110], [101, 108, 115, 105, 102], [101, 108, 115, 101], [119, 104, 105, 108, 101], [100, 111], [114, 101, 116, 117, 114, 110], [119, 114, 105, 116, 101], [105, 110, 116], [97, 114, 114, 97, 121], [111, 114], [97, 110, 100], [110, 111, 116], [100, 105, 118], [109, 111, 100]]
def kept (s : List UInt8) : Bool := keptWords.contains s
def name (z : Nat) : Ps (List UInt8)
  | [] => .bad 3 z
  | t :: r => if t.kind ≠ .word ∨ kept t.text = true then .bad 3 t.pos else if 10 < t.text.length then .bad 4 t.pos else .ok t.text r
def number (z : Nat) (most : Int) : Ps Int
  | [] => .bad 3 z
  | t :: r => if t.kind ≠ .number then .bad 3 t.pos else match Lib.parseIntB 64 t.text with
    | .ok n => if most < n then .bad 4 t.pos else .ok n r
    | _ => .bad 4 t.pos
/-- Names with a comma between, behind those of l, at most so many in all. -/
def namesL (z most : Nat) : Nat → List (List UInt8) → Ps (List (List UInt8))
  | 0, _, _ => .bad 0 0
  | f + 1, l, ts => if l.length = most then .bad 4 (hd z ts) else match name z ts with
    | .bad e p => .bad e p
    | .ok n r => if see [44] r then namesL z most f (l ++ [n]) r.tail else .ok (l ++ [n]) r
def names (z most : Nat) : Ps (List (List UInt8)) := namesL z most (most + 1) []
def levels : List (List (List UInt8)) := [[[111, 114]], [[97, 110, 100]], [[61], [35], [60], [60, 61], [62], [62, 61]], [[43], [45]], [[42], [100, 105, 118], [109, 111, 100]]]
/-- Which mark of a list stands there. -/
def opOf (l : List (List UInt8)) (ts : List Tok) : Option (List UInt8) := l.find? fun m => see m ts
def binL (sub : Ps E) (lv : List (List UInt8)) (p : Nat) : Nat → E → Ps E
  | 0, _, _ => .bad 0 0
  | f + 1, x, ts => match opOf lv ts with
    | none => .ok x ts
    | some m => match sub ts.tail with
      | .bad e q => .bad e q
      | .ok y r => binL sub lv p f (.bin p m x y) r
/-- An expression of the last k levels. -/
def expr (z : Nat) (base : Ps E) : Nat → Ps E
  | 0 => base
  | k + 1 => fun ts => match expr z base k ts with
    | .bad e p => .bad e p
    | .ok x r => binL (expr z base k) (levels.getD (4 - k) []) (hd z ts) (r.length + 1) x r
def argsL (z : Nat) (ex : Ps E) : Nat → Bool → List E → Ps (List E)
  | 0, _, _, _ => .bad 0 0
  | f + 1, first, l, ts => if see [41] ts then .ok l ts.tail else
    if first = false ∧ see [44] ts = false then .bad 3 (hd z ts) else match ex (if first then ts else ts.tail) with
      | .bad e p => .bad e p
      | .ok x r => argsL z ex f false (l ++ [x]) r
/-- What begins with a name: its module, its own. -/
def qual (z : Nat) : Ps (List UInt8 × List UInt8) := fun ts => match name z ts with
  | .bad e p => .bad e p
  | .ok n r => if see [46] r then match name z r.tail with
      | .bad e p => .bad e p
      | .ok n2 r2 => .ok (n, n2) r2
    else .ok ([], n) r
def named (z : Nat) (ex : Ps E) : Ps E := fun ts => match qual z ts with
  | .bad e p => .bad e p
  | .ok q r => if see [91] r then match ex r.tail with
      | .bad e p => .bad e p
      | .ok i r2 => match must z [93] r2 with
        | .bad e p => .bad e p
        | .ok _ r3 => .ok (.item (hd z ts) q.1 q.2 i) r3
    else if see [40] r then match argsL z ex (r.length + 1) true [] r.tail with
      | .bad e p => .bad e p
      | .ok l r2 => .ok (.app (hd z ts) q.1 q.2 (E.ofList l)) r2
    else .ok (.var (hd z ts) q.1 q.2) r
/-- One; d: how many more may lie around it, and one. -/
def one (z : Nat) : Nat → Ps E
  | 0 => fun ts => .bad 4 (hd z ts)
  | d + 1 => fun ts =>
    if see [45] ts then match one z d ts.tail with
      | .bad e p => .bad e p
      | .ok x r => .ok (.un (hd z ts) [45] x) r
    else if see [110, 111, 116] ts then match one z d ts.tail with
      | .bad e p => .bad e p
      | .ok x r => .ok (.un (hd z ts) [110, 111, 116] x) r
    else if see [40] ts then match expr z (one z d) 5 ts.tail with
      | .bad e p => .bad e p
      | .ok x r => match must z [41] r with
        | .bad e p => .bad e p
        | .ok _ r2 => .ok x r2
    else match ts with
      | [] => named z (expr z (one z d) 5) ts
      | t :: _ => if t.kind = .number then match number z 9223372036854775807 ts with
          | .bad e p => .bad e p
          | .ok n r => .ok (.num t.pos n) r
        else named z (expr z (one z d) 5) ts
/-- A whole expression. -/
def ex0 (z : Nat) : Ps E := expr z (one z 11) 5
/-- What begins a statement with a name. -/
def first (z : Nat) (p : Nat) : Ps S := fun ts => match named z (expr z (one z 10) 5) ts with
  | .bad e q => .bad e q
  | .ok (.app a m n l) r => .ok (.call p (.app a m n l) .nil) r
  | .ok (.item _ m n i) r => if m ≠ [] then .bad 3 (hd z r) else match must z [58, 61] r with
    | .bad e q => .bad e q
    | .ok _ r2 => match ex0 z r2 with
      | .bad e q => .bad e q
      | .ok v r3 => .ok (.set p n (some i) v .nil) r3
  | .ok (.var _ m n) r => if m ≠ [] then .bad 3 (hd z r) else match must z [58, 61] r with
    | .bad e q => .bad e q
    | .ok _ r2 => match ex0 z r2 with
      | .bad e q => .bad e q
      | .ok v r3 => .ok (.set p n none v .nil) r3
  | .ok _ r => .bad 0 (hd z r)
/-- What stands behind if, or elsif: bd: a body, one deeper. -/
def restL (z : Nat) (bd : Ps S) (more : Ps (E × S × S)) : Ps (E × S × S) := fun ts => match ex0 z ts with
  | .bad e p => .bad e p
  | .ok v r => match must z [116, 104, 101, 110] r with
    | .bad e p => .bad e p
    | .ok _ r2 => match bd r2 with
      | .bad e p => .bad e p
      | .ok t r3 => if see [101, 108, 115, 105, 102] r3 then match more r3.tail with
          | .bad e p => .bad e p
          | .ok x r4 => .ok (v, t, .ifs (hd z r3) x.1 x.2.1 x.2.2 .nil) r4
        else if see [101, 108, 115, 101] r3 then match bd r3.tail with
          | .bad e p => .bad e p
          | .ok e2 r4 => .ok (v, t, e2) r4
        else .ok (v, t, .nil) r3
def stmt (z : Nat) (bd : Ps S) (rest : Ps (E × S × S)) : Ps S := fun ts =>
  if see [105, 102] ts then match rest ts.tail with
    | .bad e p => .bad e p
    | .ok x r => match must z [101, 110, 100] r with
      | .bad e p => .bad e p
      | .ok _ r2 => .ok (.ifs (hd z ts) x.1 x.2.1 x.2.2 .nil) r2
  else if see [119, 104, 105, 108, 101] ts then match ex0 z ts.tail with
    | .bad e p => .bad e p
    | .ok v r => match must z [100, 111] r with
      | .bad e p => .bad e p
      | .ok _ r2 => match bd r2 with
        | .bad e p => .bad e p
        | .ok t r3 => match must z [101, 110, 100] r3 with
          | .bad e p => .bad e p
          | .ok _ r4 => .ok (.whil (hd z ts) v t .nil) r4
  else if see [114, 101, 116, 117, 114, 110] ts then match ex0 z ts.tail with
    | .bad e p => .bad e p
    | .ok v r => .ok (.ret (hd z ts) v .nil) r
  else if see [119, 114, 105, 116, 101] ts then match ex0 z ts.tail with
    | .bad e p => .bad e p
    | .ok v r => .ok (.wri (hd z ts) v .nil) r
  else first z (hd z ts) ts
def bodyL (z : Nat) (st : Ps S) : Nat → S → Ps S
  | 0, _, _ => .bad 0 0
  | f + 1, l, ts => if see [101, 110, 100] ts || see [101, 108, 115, 101] ts || see [101, 108, 115, 105, 102] ts then .ok l ts else match st ts with
    | .bad e p => .bad e p
    | .ok s r => match must z [59] r with
      | .bad e p => .bad e p
      | .ok _ r2 => bodyL z st f (l.app s) r2
/-- A body, and what stands behind if; d: how many more may lie around it, and one. -/
def bodies (z : Nat) : Nat → Ps S × Ps (E × S × S)
  | 0 => (fun ts => .bad 4 (hd z ts), fun ts => .bad 4 (hd z ts))
  | d + 1 => (fun ts => bodyL z (stmt z (bodies z d).1 (restL z (bodies z d).1 (bodies z d).2)) (ts.length + 1) .nil ts, restL z (bodies z d).1 (bodies z d).2)
def body0 (z : Nat) : Ps S := (bodies z 11).1
/-- What stands behind a variable's mark: its length. -/
def kindOf (z : Nat) : Ps Int := fun ts => if see [97, 114, 114, 97, 121] ts then match number z 30 ts.tail with
    | .bad e p => .bad e p
    | .ok n r => if n = 0 then .bad 2 (hd z r) else .ok n r
  else match must z [105, 110, 116] ts with
    | .bad e p => .bad e p
    | .ok _ r => .ok 0 r
def glob (z : Nat) : Ps Glob := fun ts => match name z ts with
  | .bad e p => .bad e p
  | .ok n r => match must z [58] (skip [42] r) with
    | .bad e p => .bad e p
    | .ok _ r2 => match kindOf z r2 with
      | .bad e p => .bad e p
      | .ok k r3 => match must z [59] r3 with
        | .bad e p => .bad e p
        | .ok _ r4 => .ok ⟨n, hd z ts, k, see [42] r⟩ r4
def varsL (z : Nat) : Nat → List Glob → Ps (List Glob)
  | 0, _, _ => .bad 0 0
  | f + 1, l, ts => if see [118, 97, 114] ts then (if l.length = 10 then .bad 4 (hd z ts.tail) else match glob z ts.tail with
      | .bad e p => .bad e p
      | .ok g r => varsL z f (l ++ [g]) r)
    else .ok l ts
def params (z : Nat) : Ps (List (List UInt8)) := fun ts => if see [41] ts then .ok [] ts.tail else match names z 10 ts with
  | .bad e p => .bad e p
  | .ok l r => match must z [41] r with
    | .bad e p => .bad e p
    | .ok _ r2 => .ok l r2
def locals (z most : Nat) : Ps (List (List UInt8)) := fun ts => if see [118, 97, 114] ts then match names z most ts.tail with
    | .bad e p => .bad e p
    | .ok l r => match must z [59] r with
      | .bad e p => .bad e p
      | .ok _ r2 => .ok l r2
  else .ok [] ts
/-- begin, a body, end, and a mark. -/
def block (z : Nat) (m : List UInt8) : Ps S := fun ts => match must z [98, 101, 103, 105, 110] ts with
  | .bad e p => .bad e p
  | .ok _ r => match body0 z r with
    | .bad e p => .bad e p
    | .ok b r2 => match must z [101, 110, 100] r2 with
      | .bad e p => .bad e p
      | .ok _ r3 => match must z m r3 with
        | .bad e p => .bad e p
        | .ok _ r4 => .ok b r4
def proc (z : Nat) : Ps Proc := fun ts => match must z [112, 114, 111, 99] ts with
  | .bad e p => .bad e p
  | .ok _ r => match name z r with
    | .bad e p => .bad e p
    | .ok n r2 => match must z [40] (skip [42] r2) with
      | .bad e p => .bad e p
      | .ok _ r3 => match params z r3 with
        | .bad e p => .bad e p
        | .ok ps r4 => match must z [59] r4 with
          | .bad e p => .bad e p
          | .ok _ r5 => match locals z (10 - ps.length) r5 with
            | .bad e p => .bad e p
            | .ok vs r6 => match block z [59] r6 with
              | .bad e p => .bad e p
              | .ok b r7 => .ok ⟨n, hd z ts, see [42] r2, ps, vs, b⟩ r7
def procsL (z : Nat) : Nat → List Proc → Ps (List Proc)
  | 0, _, _ => .bad 0 0
  | f + 1, l, ts => if see [112, 114, 111, 99] ts then (if l.length = 10 then .bad 4 (hd z ts) else match proc z ts with
      | .bad e p => .bad e p
      | .ok x r => procsL z f (l ++ [x]) r)
    else .ok l ts
def imports (z : Nat) : Ps (List (List UInt8)) := fun ts => if see [105, 109, 112, 111, 114, 116] ts then match names z 6 ts.tail with
    | .bad e p => .bad e p
    | .ok l r => match must z [59] r with
      | .bad e p => .bad e p
      | .ok _ r2 => .ok l r2
  else .ok [] ts
def module_ (z : Nat) : Ps Mod := fun ts => match must z [109, 111, 100, 117, 108, 101] ts with
  | .bad e p => .bad e p
  | .ok _ r => match name z r with
    | .bad e p => .bad e p
    | .ok n r2 => match must z [59] r2 with
      | .bad e p => .bad e p
      | .ok _ r3 => match imports z r3 with
        | .bad e p => .bad e p
        | .ok is r4 => match varsL z 11 [] r4 with
          | .bad e p => .bad e p
          | .ok vs r5 => match procsL z 11 [] r5 with
            | .bad e p => .bad e p
            | .ok ps r6 => match block z [46] r6 with
              | .bad e p => .bad e p
              | .ok b r7 => .ok ⟨n, is, vs, ps, b⟩ r7
/-- A module, or what is wrong, and where. -/
inductive Res where
  | ok (m : Mod)
  | bad (e : Nat) (pos : Nat)
def parse (l : List UInt8) : Res := match lex l with
  | .bad e p => .bad e p
  | .ok ts => match module_ l.length ts with
    | .bad e p => .bad e p
    | .ok m [] => .ok m
    | .ok _ (t :: _) => .bad 3 t.pos

/-! ### The printer -/
def opLevel (op : List UInt8) : Nat := (levels.findIdx? fun l => l.contains op).getD 0
def lvl : E → Nat
  | .bin _ op _ _ => opLevel op
  | _ => 5
def within (least : Nat) (x : E) (t : List UInt8) : List UInt8 := if least ≤ lvl x then t else [40] ++ t ++ [41]
def qualT (m n : List UInt8) : List UInt8 := if m = [] then n else m ++ [46] ++ n
def text : E → List UInt8
  | .num _ n => Lib.itoa n
  | .var _ m n => qualT m n
  | .item _ m n i => qualT m n ++ [91] ++ text i ++ [93]
  | .un _ op x => (if op = [110, 111, 116] then [110, 111, 116, 32] else [45]) ++ within 5 x (text x)
  | .bin _ op x y => within (opLevel op) x (text x) ++ [32] ++ op ++ [32] ++ within (opLevel op + 1) y (text y)
  | .app _ m n l => qualT m n ++ [40] ++ text l ++ [41]
  | .nil => []
  | .cons x .nil => text x
  | .cons x r => text x ++ [44, 32] ++ text r
def S.isNil : S → Bool
  | .nil => true
  | _ => false
/-- Statements, a line each, so far from the left. -/
def stmtsT : S → List UInt8 → List UInt8
  | .nil, _ => []
  | .set _ n i v r, tab => tab ++ n ++ (match i with | some x => [91] ++ text x ++ [93] | none => []) ++ [32, 58, 61, 32] ++ text v ++ [59, 10] ++ stmtsT r tab
  | .ret _ v r, tab => tab ++ [114, 101, 116, 117, 114, 110, 32] ++ text v ++ [59, 10] ++ stmtsT r tab
  | .wri _ v r, tab => tab ++ [119, 114, 105, 116, 101, 32] ++ text v ++ [59, 10] ++ stmtsT r tab
  | .call _ v r, tab => tab ++ text v ++ [59, 10] ++ stmtsT r tab
  | .whil _ v t r, tab => tab ++ [119, 104, 105, 108, 101, 32] ++ text v ++ [32, 100, 111, 10] ++ stmtsT t (tab ++ [32, 32]) ++ tab ++ [101, 110, 100, 59, 10] ++ stmtsT r tab
  | .ifs _ v t e r, tab => tab ++ [105, 102, 32] ++ text v ++ [32, 116, 104, 101, 110, 10] ++ stmtsT t (tab ++ [32, 32]) ++ (if e.isNil then [] else tab ++ [101, 108, 115, 101, 10] ++ stmtsT e (tab ++ [32, 32])) ++ tab ++ [101, 110, 100, 59, 10] ++ stmtsT r tab
def star (b : Bool) : List UInt8 := if b then [42] else []
def globT (g : Glob) : List UInt8 := [118, 97, 114, 32] ++ g.name ++ star g.seen ++ [58, 32] ++ (if 0 < g.len then [97, 114, 114, 97, 121, 32] ++ Lib.itoa g.len else [105, 110, 116]) ++ [59, 10]
def procT (x : Proc) : List UInt8 := [112, 114, 111, 99, 32] ++ x.name ++ star x.seen ++ [40] ++ Lib.join x.params [44, 32] ++ [41, 59, 10] ++ (if x.vars = [] then [] else [118, 97, 114, 32] ++ Lib.join x.vars [44, 32] ++ [59, 10]) ++ [98, 101, 103, 105, 110, 10] ++ stmtsT x.body [32, 32] ++ [101, 110, 100, 59, 10]
def modT (m : Mod) : List UInt8 := [109, 111, 100, 117, 108, 101, 32] ++ m.name ++ [59, 10] ++ (if m.imports = [] then [] else [105, 109, 112, 111, 114, 116, 32] ++ Lib.join m.imports [44, 32] ++ [59, 10]) ++ m.vars.flatMap globT ++ m.procs.flatMap procT ++ [98, 101, 103, 105, 110, 10] ++ stmtsT m.body [32, 32] ++ [101, 110, 100, 46, 10]
end Go.Mq.Tree
