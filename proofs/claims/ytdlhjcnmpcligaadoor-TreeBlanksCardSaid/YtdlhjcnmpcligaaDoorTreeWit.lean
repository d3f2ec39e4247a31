/- A world for the witness: the listed tables hold what their initialisers lay; and what the rows' reading gives of integers in a slice. -/
import Derived.Test.YtdlhjcnmpcligaaDoorRows
import Derived.Test.YtdlhjcnmpcligaaDoorTreeLaid
import Derived.Lib.LaidIn
import Derived.Deep.DeepHandedRow
import Derived.Deep.DeepWitnessRowRef
import Derived.ProofKit
import Derived.SizedLaws
namespace Go.Proofs.YtdlhjcnmpcligaaDoor.TreeWit
open Go.ChangeShapes Go.WideShapes Go.ChangeAt Go.RowKit Go.Lib Go.Mq Go.Mq.Tree
/-- The cells of a table of integers or strings. -/
def tableOf : DataW Unit → Array Value
  | .agg l => (l.map fun
    | .lit (.int k n) => Value.int k n
    | .lit (.string s) => Value.string ⟨s.toArray⟩
    | _ => undef).toArray
  | _ => #[]
def textOf : DataW Unit → Array Value
  | .iface _ (.ptr (.agg [.lit (.string s)])) => #[.string ⟨s.toArray⟩]
  | _ => #[]
def rowsOf : DataW Unit → List (Array Value)
  | .agg l => l.map fun
    | .slice xs _ => tableOf (.agg xs)
    | _ => #[]
  | _ => []
noncomputable def laidWorld (os : Os) : World :=
  let w0 := World.holding Tryd.prog os ⟨#[], #[], []⟩
  let put (h : Array Obj) (g : Nat) (cs : Array Value) : Array Obj := h.modify g fun
    | .cells _ t frozen => .cells cs t frozen
    | o => o
  let N := w0.heap.size
  let h1 := put w0.heap 6 (tableOf Rows.laid_math_bits_deBruijn32tab)
  let h2 := put h1 7 (tableOf Rows.laid_math_bits_deBruijn64tab)
  let h3 := put h2 3 (tableOf Rows.laid_internal_strconv_uint64pow10)
  let h4 := put h3 0 (tableOf Rows.laid_marquetry_tree_marks)
  let h5 := put h4 5 #[.iface 139 (.pointer (some ⟨N, 0, none⟩))]
  let h6 := put h5 4 #[.iface 139 (.pointer (some ⟨N + 1, 0, none⟩))]
  let ls := rowsOf Rows.laid_marquetry_tree_levels
  let h7 := put h6 1 ((List.range 5).map fun i => Value.slice (some ⟨N + 2 + i, 0, none⟩) (ls.getD i #[]).size (ls.getD i #[]).size).toArray
  let h8 := h7 ++ #[Obj.cells (textOf Rows.laid_strconv_ErrRange) 141 (0, 0), Obj.cells (textOf Rows.laid_strconv_ErrSyntax) 141 (0, 0)] ++ (ls.map fun l => Obj.cells l 9 (0, 0)).toArray
  { w0 with heap := h8 }
theorem laid_met (os : Os) (args : Array Value) : laidMet Tryd.prog Rows.treeBackRow.laid ((laidWorld os).forCall (fun _ _ => 0) ⟨#[], args, []⟩).memory :=
  (LaidIn.of_run (l := Rows.treeBackRow.laid) (List.range 200) 8 (by kernel_rfl) (by kernel_rfl) (by kernel_rfl) (by kernel_rfl)).met
theorem own : ownKnob Tryd.prog.godebug = none := by kernel_rfl
theorem open_intl {H : Type} {enc : TypeId × Value → H} {P : Program} {w : World} {spare : Nat → Bool} {held : Bool} {r : Reach} {b0 : Nat} {t e : TypeId} {v : Value} {d : DataW H} {ps : List MemPlace} (ht : P.underlying t = some (.slice e)) (he : P.underlying e = some (.int .i64)) (hc : P.cellsOf e = 1)
    (hval : Value.okWide P w r b0 t v) (hd : DataW.Trod enc P w 0 spare held t v d ps) : ∃ (a : Option Addr) (l : List Int) (c : Nat), v = .slice a l.length c ∧ At w a (l.map (Value.int .i64)) ∧ l.length ≤ 9223372036854775807 := by
  obtain ⟨a0, n0, c0, rfl⟩ := okWide_slice ht hval
  obtain ⟨fuel, hf⟩ := hd
  rcases open_ints ht he hc hf with ⟨h, _⟩ | ⟨a, len, cap, zs, h, _, hlc, hcm, hzl, _, hcell, _⟩
  · simp [Value.cells] at h
    obtain ⟨rfl, rfl, rfl⟩ := h
    exact ⟨none, [], 0, rfl, fun h => by simp at h, by simp⟩
  · simp [Value.cells] at h
    obtain ⟨rfl, rfl, rfl⟩ := h
    have hle : n0 ≤ zs.length := by rw [hzl]; split <;> omega
    have hl : (zs.take n0).length = n0 := by rw [List.length_take]; omega
    refine ⟨some a, zs.take n0, c0, by rw [hl], fun h0 => ?_, by rw [hl]; simp only [maxLen] at hcm; omega⟩
    rw [List.length_map, hl] at h0
    obtain ⟨b, off, spot⟩ := a
    have hz := hcell 0 (by omega)
    have hspot : spot = none := by
      have h1 := World.cell?_spot hz
      simp [Addr.add] at h1
      exact h1
    subst hspot
    refine ⟨b, off, rfl, fun i x hx => ?_⟩
    rw [List.getElem?_map, Option.map_eq_some_iff] at hx
    obtain ⟨z, hz1, rfl⟩ := hx
    rw [List.getElem?_take] at hz1
    split at hz1
    · have hi : i < zs.length := by omega
      have := hcell i hi
      rw [add_plain] at this
      rw [this, List.getD_eq_getElem?_getD, hz1]
      rfl
    · cases hz1
end Go.Proofs.YtdlhjcnmpcligaaDoor.TreeWit
