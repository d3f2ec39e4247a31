/- What others see of modules, in plain Lean. No program is named here. -/
import Derived.Test.YtoeblajmelbbmaaGreatDoorTreePure
import Derived.Lib.Bytealg
namespace Go.Mq.Sym
open Go Go.RowKit Go.Mq Go.Mq.Tree
structure Sy where
  name : List UInt8
  len : Int
  args : Int
def Sy.none : Sy := ⟨[], 0, 0⟩
def Sy.cells (s : Sy) : List Value := [.string (bs s.name), .int .i64 s.len, .int .i64 s.args]
/-- One stands ahead of another one. -/
def ltS (x y : Sy) : Bool := decide (Lib.compareBytes x.name y.name < 0)
/-- The element at k goes down to its place. -/
def sinkS : Nat → List Sy → List Sy
  | 0, l => l
  | k + 1, l => if ltS (l.getD (k + 1) Sy.none) (l.getD k Sy.none) then sinkS k ((l.set (k + 1) (l.getD k Sy.none)).set k (l.getD (k + 1) Sy.none)) else l
def sortFrom (i n : Nat) (l : List Sy) : List Sy := (List.range' i (n - i)).foldl (fun l i => sinkS i l) l
def insSort (l : List Sy) : List Sy := sortFrom 1 l.length l
def varSy (g : Glob) : Sy := ⟨g.name, g.len, -1⟩
def procSy (p : Proc) : Sy := ⟨p.name, 0, p.params.length⟩
def seenL (vs : List Glob) (ps : List Proc) : List Sy := (vs.filter (·.seen)).map varSy ++ (ps.filter (·.seen)).map procSy
def ofM (m : Mod) : List Sy := insSort (seenL m.vars m.procs)
def lineT (s : Sy) : List UInt8 := if 0 ≤ s.args then [112, 114, 111, 99, 32] ++ s.name ++ [32] ++ Lib.itoa s.args ++ [10] else if 0 < s.len then [97, 114, 114, 97, 121, 32] ++ s.name ++ [32] ++ Lib.itoa s.len ++ [10] else [105, 110, 116, 32] ++ s.name ++ [10]
def printT (l : List Sy) : List UInt8 := l.flatMap lineT
def findS (l : List Sy) (n : List UInt8) : Option Nat := l.findIdx? fun s => s.name == n
def needT (l : List Sy) (n : List UInt8) : List UInt8 := match findS l n with
  | none => [110, 111, 110, 101, 32] ++ n ++ [10]
  | some k => lineT (l.getD k Sy.none)
def needsT (l : List Sy) (names : List (List UInt8)) : List UInt8 := names.flatMap (needT l)
/-- FNV-1a, of 32 bits. -/
def fnvStep (h : Nat) (c : UInt8) : Nat := ((h ^^^ c.toNat) * 16777619) % 4294967296
def fnv (s : List UInt8) : Nat := s.foldl fnvStep 2166136261
theorem sinkS_length : ∀ (k : Nat) (l : List Sy), (sinkS k l).length = l.length
  | 0, _ => rfl
  | k + 1, l => by
    rw [sinkS]
    split
    · rw [sinkS_length k]; simp
    · rfl
theorem sortFrom_step {i n : Nat} (h : i < n) (l : List Sy) : sortFrom i n l = sortFrom (i + 1) n (sinkS i l) := by
  rw [sortFrom, sortFrom, show n - i = (n - (i + 1)) + 1 by omega, List.range'_succ, List.foldl_cons]
theorem sortFrom_end {i n : Nat} (h : n ≤ i) (l : List Sy) : sortFrom i n l = l := by
  rw [sortFrom, show n - i = 0 by omega]; rfl
theorem sortFrom_length : ∀ (d i n : Nat) (l : List Sy), n - i ≤ d → (sortFrom i n l).length = l.length
  | 0, i, n, l, h => by rw [sortFrom_end (by omega)]
  | d + 1, i, n, l, h => by
    by_cases hi : i < n
    · rw [sortFrom_step hi, sortFrom_length d (i + 1) n _ (by omega), sinkS_length]
    · rw [sortFrom_end (by omega)]
theorem insSort_length (l : List Sy) : (insSort l).length = l.length := sortFrom_length _ 1 l.length l (Nat.le_refl _)
end Go.Mq.Sym
