/- A world for the witness: the listed tables hold what their initialisers lay; and what the rows' reading gives of integers in a slice. -/
import Derived.Test.YtoeblajmelbbmaaDoorRows
import Derived.Test.YtoeblajmelbbmaaDoorTreeLaid
import Derived.Lib.LaidIn
import Derived.Deep.DeepHandedRow
import Derived.Deep.DeepWitnessRowRef
import Derived.ProofKit
import Derived.SizedLaws
namespace Go.Proofs.YtoeblajmelbbmaaDoor.SymWit
open Go.ChangeShapes Go.WideShapes Go.ChangeAt Go.RowKit Go.Lib Go.Mq Go.Mq.Tree
/-- The cells of a table of integers or strings. -/
def tableOf : DataW Unit → Array Value
  | .agg l => (l.map fun
    | .lit (.int k n) => Value.int k n
    | .lit (.string s) => Value.string ⟨s.toArray⟩
    | _ => undef).toArray
  | _ => #[]
def textOf : DataW Unit → Array Value
  | .iface _ (.ptr (.agg [.lit (.string s)])) => #[.string ⟨s.toArray⟩]
  | _ => #[]
def rowsOf : DataW Unit → List (Array Value)
  | .agg l => l.map fun
    | .slice xs _ => tableOf (.agg xs)
    | _ => #[]
  | _ => []
noncomputable def laidWorld (os : Os) : World :=
  let w0 := World.holding Tryd.prog os ⟨#[], #[], []⟩
  let put (h : Array Obj) (g : Nat) (cs : Array Value) : Array Obj := h.modify g fun
    | .cells _ t frozen => .cells cs t frozen
    | o => o
  let N := w0.heap.size
  let h1 := put w0.heap 6 (tableOf Rows.laid_math_bits_deBruijn32tab)
  let h2 := put h1 7 (tableOf Rows.laid_math_bits_deBruijn64tab)
  let h3 := put h2 3 (tableOf Rows.laid_internal_strconv_uint64pow10)
  let h4 := put h3 0 (tableOf Rows.laid_marquetry_tree_marks)
  let h5 := put h4 5 #[.iface 146 (.pointer (some ⟨N, 0, none⟩))]
  let h6 := put h5 4 #[.iface 146 (.pointer (some ⟨N + 1, 0, none⟩))]
  let ls := rowsOf Rows.laid_marquetry_tree_levels
  let h7 := put h6 2 ((List.range 5).map fun i => Value.slice (some ⟨N + 2 + i, 0, none⟩) (ls.getD i #[]).size (ls.getD i #[]).size).toArray
  let h8 := h7 ++ #[Obj.cells (textOf Rows.laid_strconv_ErrRange) 148 (0, 0), Obj.cells (textOf Rows.laid_strconv_ErrSyntax) 148 (0, 0)] ++ (ls.map fun l => Obj.cells l 9 (0, 0)).toArray
  { w0 with heap := h8 }
theorem laid_met (os : Os) (args : Array Value) : laidMet Tryd.prog Rows.symNeedsRow.laid ((laidWorld os).forCall (fun _ _ => 0) ⟨#[], args, []⟩).memory :=
  (LaidIn.of_run (l := Rows.symNeedsRow.laid) (List.range 200) 8 (by kernel_rfl) (by kernel_rfl) (by kernel_rfl) (by kernel_rfl)).met
theorem own : ownKnob Tryd.prog.godebug = none := by kernel_rfl
theorem open_names {H : Type} {enc : TypeId × Value → H} {P : Program} {w : World} {spare : Nat → Bool} {held : Bool} {r : Reach} {b0 : Nat} {t e : TypeId} {v : Value} {d : DataW H} {ps : List MemPlace} (ht : P.underlying t = some (.slice e)) (he : P.underlying e = some .string) (hc : P.cellsOf e = 1)
    (hval : Value.okWide P w r b0 t v) (hd : DataW.Trod enc P w 0 spare held t v d ps) : ∃ (a : Option Addr) (l : List (List UInt8)) (c : Nat), v = .slice a l.length c ∧ NamesAt w (fun _ => True) l v ∧ l.length ≤ 9223372036854775807 ∧ ∀ n ∈ l, n.length ≤ 9223372036854775807 := by
  obtain ⟨a0, n0, c0, rfl⟩ := okWide_slice ht hval
  obtain ⟨fuel, hf⟩ := hd
  rcases DataW.trod_slice ht hf with ⟨h, _⟩ | ⟨a, len, cap, elems, rest, n, _, h, _, _, hlc, hcm, hel, hget, _⟩
  · simp [Value.cells] at h
    obtain ⟨rfl, rfl, rfl⟩ := h
    exact ⟨none, [], 0, rfl, NamesAt.nil, by simp, fun n hn => by cases hn⟩
  · simp [Value.cells] at h
    obtain ⟨rfl, rfl, rfl⟩ := h
    have step : ∀ m, m ≤ n0 → ∃ l : List (List UInt8), l.length = m ∧ (∀ (i : Nat) (d : List UInt8), l[i]? = some d → w.cell? (a.add i) = some (str d)) ∧ ∀ d ∈ l, d.length ≤ 9223372036854775807 := by
      intro m
      induction m with
      | zero => exact fun _ => ⟨[], rfl, fun _ _ h => by simp at h, fun _ h => by cases h⟩
      | succ m ih =>
        intro hm
        obtain ⟨l, hl, hcl, hg⟩ := ih (by omega)
        have he1 := hget m (by omega)
        rw [List.getElem?_eq_getElem (by omega), Option.bind_eq_some_iff, hc, Nat.mul_one] at he1
        obtain ⟨cs', hcs, hd⟩ := he1
        obtain ⟨s, rfl, _, hs⟩ := DataW.trod_string he hd
        obtain ⟨_, _, hcell⟩ := World.cells?_some hcs
        have h2 : w.cell? (a.add m) = some (str s.data.toList) := by
          have : w.cell? (a.add m) = [Value.string s][0]? := hcell 0 (by omega)
          rw [this, str, bs_toList]; rfl
        refine ⟨l ++ [s.data.toList], by simp [hl], fun i d' hi => ?_, fun d' hd' => ?_⟩
        · rcases Nat.lt_or_ge i l.length with h | h
          · rw [List.getElem?_append_left h] at hi; exact hcl i d' hi
          · have hi0 : i = m := by
              have := (List.getElem?_eq_some_iff.1 hi).1
              simp at this
              omega
            subst hi0
            rw [List.getElem?_append_right (by omega), hl, Nat.sub_self] at hi
            cases hi
            exact h2
        · rcases List.mem_append.1 hd' with h | h
          · exact hg d' h
          · rw [List.mem_singleton] at h
            subst h
            rw [← Lib.size_eq]
            simp only [maxLen] at hs
            omega
    obtain ⟨l, hl, hcl, hg⟩ := step n0 (Nat.le_refl _)
    refine ⟨some a, l, c0, by rw [hl], ⟨some a, c0, by rw [hl], by omega, fun h0 => ?_, fun _ _ _ => trivial⟩, by simp only [maxLen] at hcm; omega, hg⟩
    rw [List.length_map] at h0
    obtain ⟨b, off, spot⟩ := a
    have hz := hcl 0 l[0] (List.getElem?_eq_getElem h0)
    have hspot : spot = none := by
      have h1 := World.cell?_spot hz
      simp [Addr.add] at h1
      exact h1
    subst hspot
    refine ⟨b, off, rfl, fun i x hx => ?_⟩
    rw [List.getElem?_map, Option.map_eq_some_iff] at hx
    obtain ⟨z, hz1, rfl⟩ := hx
    have := hcl i z hz1
    rwa [add_plain] at this
end Go.Proofs.YtoeblajmelbbmaaDoor.SymWit
