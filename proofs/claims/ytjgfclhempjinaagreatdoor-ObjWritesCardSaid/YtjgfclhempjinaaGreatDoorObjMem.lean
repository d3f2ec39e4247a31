/- Objects, in plain Lean, and in memory. No program is named here. -/
import Derived.Test.YtjgfclhempjinaaGreatDoorObjRead
import Derived.Lib.SlTrimSet
import Derived.Lib.Bytealg
namespace Go.Mq.Obj
open Go Go.RowKit Go.Mq
def lets : List UInt8 := [97, 98, 99, 100, 101, 102, 103, 104, 105, 106, 107, 108, 109, 110, 111, 112, 113, 114, 115, 116, 117, 118, 119, 120, 121, 122]
def letsDigs : List UInt8 := [97, 98, 99, 100, 101, 102, 103, 104, 105, 106, 107, 108, 109, 110, 111, 112, 113, 114, 115, 116, 117, 118, 119, 120, 121, 122, 48, 49, 50, 51, 52, 53, 54, 55, 56, 57]
def nameOK (l : List UInt8) : Bool := match l with
  | [] => false
  | c :: t => decide ((c :: t).length ≤ 10) && decide (0 ≤ Lib.indexByte lets c) && (Lib.trimS (c :: t) letsDigs).isEmpty

structure SymD where
  name : List UInt8
  len : Int
  args : Int
structure UseD where
  name : List UInt8
  need : List UInt8
  names : List (List UInt8)
structure GlobD where
  name : List UInt8
  place : Int
  len : Int
  seen : Bool
structure EntD where
  place : Int
  args : Int
  locals : Int
structure InstD where
  op : Int
  a : Int
  b : Int
structure ObjD where
  name : List UInt8
  syms : List SymD
  uses : List UseD
  vars : List GlobD
  procs : List EntD
  names : List (List UInt8)
  code : List InstD

/-- An int of 64 bits. -/
def I64 (n : Int) : Prop := -9223372036854775808 ≤ n ∧ n < 9223372036854775808
def SymD.fit (s : SymD) : Prop := I64 s.len ∧ I64 s.args
def GlobD.fit (g : GlobD) : Prop := I64 g.place ∧ I64 g.len
def EntD.fit (p : EntD) : Prop := I64 p.place ∧ I64 p.args ∧ I64 p.locals
def InstD.fit (x : InstD) : Prop := I64 x.op ∧ I64 x.a ∧ I64 x.b
structure ObjD.fit (o : ObjD) : Prop where
  syms : ∀ s ∈ o.syms, s.fit
  vars : ∀ g ∈ o.vars, g.fit
  procs : ∀ p ∈ o.procs, p.fit
  code : ∀ x ∈ o.code, x.fit

def symOK (s : SymD) : Bool := nameOK s.name && decide (-1 ≤ s.args) && decide (s.args ≤ 10) && decide (0 ≤ s.len) && decide (s.len ≤ 30) && !(decide (0 ≤ s.args) && decide (0 < s.len))
def useOK (own : List UInt8) (u : UseD) : Bool := nameOK u.name && !(u.name == own) && u.names.all nameOK && decide (u.names.length ≤ 100) && decide (u.need.length ≤ 4000)
def globOK (g : GlobD) : Bool := nameOK g.name && decide (g.place = 0) && decide (0 ≤ g.len) && decide (g.len ≤ 30)
def entOK (n : Nat) (p : EntD) : Bool := decide (0 ≤ p.place) && decide (p.place < n) && decide (0 ≤ p.args) && decide (p.args ≤ p.locals) && decide (p.locals ≤ 10)
def headOK (o : ObjD) : Bool := nameOK o.name && decide (o.uses.length ≤ 6) && decide (o.vars.length ≤ 10) && decide (o.procs.length ≤ 10) && decide (o.names.length = o.procs.length) && o.names.all nameOK && decide (o.syms.length ≤ 20)
def partsOK (o : ObjD) : Bool := headOK o && o.syms.all symOK && o.uses.all (useOK o.name) && o.vars.all globOK && o.procs.all (entOK o.code.length)
def inB (k : Int) (n : Nat) : Bool := decide (0 ≤ k) && decide (k < n)
def thereOK (o : ObjD) (x : InstD) (own : Nat) : Bool := if x.b = -1 then inB x.a own else inB x.b o.uses.length && inB x.a ((o.uses[x.b.toNat]?).elim 0 fun u => u.names.length)
def instOK (o : ObjD) (x : InstD) : Bool :=
  if x.op = 1 then decide (x.b = 0)
  else if x.op = 3 ∨ x.op = 4 then inB x.a 10 && decide (x.b = 0)
  else if x.op = 5 ∨ x.op = 7 then thereOK o x o.vars.length
  else if x.op = 6 ∨ x.op = 8 then inB x.a o.vars.length && decide (x.b = 0)
  else if x.op = 9 then inB x.a 11 && decide (x.b = 0)
  else if x.op = 12 ∨ x.op = 13 then inB x.a o.code.length && decide (x.b = 0)
  else if x.op = 14 then thereOK o x o.procs.length
  else if x.op = 2 ∨ x.op = 10 ∨ x.op = 11 ∨ x.op = 15 ∨ x.op = 16 ∨ x.op = 17 then decide (x.a = 0) && decide (x.b = 0)
  else false
def lastOK (l : List InstD) : Bool := match l.getLast? with
  | some x => decide (x.op = 12) || decide (x.op = 15) || decide (x.op = 17)
  | none => false
def right (o : ObjD) : Bool := decide (1 ≤ o.code.length) && decide (o.code.length ≤ 4000) && partsOK o && lastOK o.code && o.code.all (instOK o)

/-! ### In memory -/
abbrev str (l : List UInt8) : Value := .string (bs l)
def SymD.cells (s : SymD) : List Value := [str s.name, .int .i64 s.len, .int .i64 s.args]
def GlobD.cells (g : GlobD) : List Value := [str g.name, .int .i64 g.place, .int .i64 g.len, .bool g.seen]
def EntD.cells (p : EntD) : List Value := [.int .i64 p.place, .int .i64 p.args, .int .i64 p.locals]
def InstD.cells (x : InstD) : List Value := [.int .i64 x.op, .int .i64 x.a, .int .i64 x.b]
/-- A use, and where its names lie. -/
structure UseM where
  u : UseD
  at_ : Option Addr
  cap : Nat
def UseM.cells (m : UseM) : List Value := [str m.u.name, str m.u.need, .slice m.at_ m.u.names.length m.cap]

/-- Where an object's parts lie. -/
structure ObjM where
  sa : Option Addr
  ua : Option Addr
  va : Option Addr
  pa : Option Addr
  na : Option Addr
  ca : Option Addr
  sc : Nat
  uc : Nat
  vc : Nat
  pc : Nat
  nc : Nat
  cc : Nat
  us : List UseM

/-- The object o lies at block b, from off on; all of it below block B. -/
structure ObjAt (w : World) (B : Nat) (b off : Nat) (o : ObjD) (M : ObjM) : Prop where
  lt : b < B
  c0 : w.cell? ⟨b, off, none⟩ = some (str o.name)
  c1 : w.cell? ⟨b, off + 1, none⟩ = some (.slice M.sa o.syms.length M.sc)
  c2 : w.cell? ⟨b, off + 2, none⟩ = some (.slice M.ua o.uses.length M.uc)
  c3 : w.cell? ⟨b, off + 3, none⟩ = some (.slice M.va o.vars.length M.vc)
  c4 : w.cell? ⟨b, off + 4, none⟩ = some (.slice M.pa o.procs.length M.pc)
  c5 : w.cell? ⟨b, off + 5, none⟩ = some (.slice M.na o.names.length M.nc)
  c6 : w.cell? ⟨b, off + 6, none⟩ = some (.slice M.ca o.code.length M.cc)
  s : At w M.sa (o.syms.flatMap SymD.cells)
  sB : Under B M.sa o.syms.length
  us : M.us.map (·.u) = o.uses
  u : At w M.ua (M.us.flatMap UseM.cells)
  uB : Under B M.ua o.uses.length
  un : ∀ m ∈ M.us, At w m.at_ (m.u.names.map str) ∧ Under B m.at_ m.u.names.length
  v : At w M.va (o.vars.flatMap GlobD.cells)
  vB : Under B M.va o.vars.length
  p : At w M.pa (o.procs.flatMap EntD.cells)
  pB : Under B M.pa o.procs.length
  n : At w M.na (o.names.map str)
  nB : Under B M.na o.names.length
  c : At w M.ca (o.code.flatMap InstD.cells)
  cB : Under B M.ca o.code.length

/-- A list of rows of cells: one cell. -/
theorem flat_get {α β : Type} (f : α → List β) (c : Nat) (hf : ∀ x, (f x).length = c) (l : List α) (i j : Nat) (x : α) (hi : l[i]? = some x) (hj : j < c) : (l.flatMap f)[i * c + j]? = (f x)[j]? := by
  induction l generalizing i with
  | nil => simp at hi
  | cons y l ih =>
    cases i with
    | zero =>
      simp at hi; subst hi
      rw [List.flatMap_cons, Nat.zero_mul, Nat.zero_add, List.getElem?_append_left (by rw [hf]; exact hj)]
    | succ i =>
      simp at hi
      rw [List.flatMap_cons, List.getElem?_append_right (by rw [hf, Nat.succ_mul]; omega), hf]
      have e : (i + 1) * c + j - c = i * c + j := by rw [Nat.succ_mul]; omega
      rw [e]
      exact ih i hi
theorem flat_len {α β : Type} (f : α → List β) (c : Nat) (hf : ∀ x, (f x).length = c) (l : List α) : (l.flatMap f).length = l.length * c := by
  induction l with
  | nil => simp
  | cons y l ih => rw [List.flatMap_cons, List.length_append, hf, ih, List.length_cons, Nat.succ_mul]; omega

theorem flat_pos {α β : Type} {f : α → List β} {l : List α} (h : 0 < (l.flatMap f).length) : 0 < l.length := by
  cases l with
  | nil => simp at h
  | cons x l => simp
theorem ObjAt.kept {w w' : World} {B b off : Nat} {o : ObjD} {M : ObjM} {S : List Nat} (h : ObjAt w B b off o M) (hc : Chg S w w') (hS : ∀ x ∈ S, B ≤ x) : ObjAt w' B b off o M := by
  have hb : b ∉ S := fun hm => by have := hS b hm; have := h.lt; omega
  exact ⟨h.lt, hc.cellSome h.c0 hb, hc.cellSome h.c1 hb, hc.cellSome h.c2 hb, hc.cellSome h.c3 hb, hc.cellSome h.c4 hb, hc.cellSome h.c5 hb, hc.cellSome h.c6 hb,
    h.s.lower h.sB flat_pos hc hS, h.sB, h.us, h.u.lower h.uB (fun h0 => by rw [← h.us, List.length_map]; exact flat_pos h0) hc hS, h.uB, fun m hm => ⟨(h.un m hm).1.lower (h.un m hm).2 (fun h0 => by simpa using h0) hc hS, (h.un m hm).2⟩, h.v.lower h.vB flat_pos hc hS, h.vB, h.p.lower h.pB flat_pos hc hS, h.pB, h.n.lower h.nB (fun h0 => by simpa using h0) hc hS, h.nB, h.c.lower h.cB flat_pos hc hS, h.cB⟩
theorem ObjAt.blt {w : World} {B b off : Nat} {o : ObjD} {M : ObjM} (h : ObjAt w B b off o M) : b < w.heap.size := World.block_lt_of_cell? w _ h.c0
theorem map_flat {α β : Type} (f : α → β) (l : List α) : l.map f = l.flatMap (fun x => [f x]) := by induction l <;> simp_all

/-- What holds of the numbers in an object's parts, and of its lengths. -/
structure ObjD.small (o : ObjD) : Prop where
  fit : o.fit
  name : o.name.length ≤ 1099511627776
  syms : o.syms.length ≤ 1099511627776 ∧ ∀ s ∈ o.syms, s.name.length ≤ 1099511627776
  uses : o.uses.length ≤ 1099511627776 ∧ ∀ u ∈ o.uses, u.name.length ≤ 1099511627776 ∧ u.need.length ≤ 1099511627776 ∧ u.names.length ≤ 1099511627776 ∧ ∀ n ∈ u.names, n.length ≤ 1099511627776
  vars : o.vars.length ≤ 1099511627776 ∧ ∀ g ∈ o.vars, g.name.length ≤ 1099511627776
  procs : o.procs.length ≤ 1099511627776
  names : o.names.length ≤ 1099511627776 ∧ ∀ n ∈ o.names, n.length ≤ 1099511627776
  code : o.code.length ≤ 1099511627776

end Go.Mq.Obj
