/- Some texts in one. -/
import Derived.Test.YtechofppmnnomaaGreatDoorRows
import Derived.Lib.LaidIn
import Derived.Deep.DeepHandedRow
import Derived.Deep.DeepWitnessRowRef
import Derived.ProofKit
import Derived.SizedLaws
import Derived.Test.YtechofppmnnomaaGreatDoorG1
namespace Go.Proofs.YtechofppmnnomaaGreatDoor.BothWit
open Go.ChangeShapes Go.WideShapes Go.ChangeAt Go.RowKit Go.Lib Go.Mq Go.Mq.Tree
def tableOf:DataW Unit→Array Value
 | .agg l=>(l.map fun
  | .lit (.int k n)=>Value.int k n
  | .lit (.string s)=>Value.string ⟨s.toArray⟩
  | _=>undef).toArray
 | _=>#[]
def textOf:DataW Unit→Array Value
 | .iface _ (.ptr (.agg [.lit (.string s)]))=>#[.string ⟨s.toArray⟩]
 | _=>#[]
def rowsOf:DataW Unit→List (Array Value)
 | .agg l=>l.map fun
  | .slice xs _=>tableOf (.agg xs)
  | _=>#[]
 | _=>[]
noncomputable def laidWorld (os:Os):World:=
 let w0:=World.holding Tryz.prog os ⟨#[],#[],[]⟩
 let put (h:Array Obj) (g:Nat) (cs:Array Value):Array Obj:=h.modify g fun
  | .cells _ t frozen=>.cells cs t frozen
  | o=>o
 let N:=w0.heap.size
 let h1:=put w0.heap 7 (tableOf Rows.laid_math_bits_deBruijn32tab)
 let h2:=put h1 8 (tableOf Rows.laid_math_bits_deBruijn64tab)
 let h3:=put h2 4 (tableOf Rows.laid_internal_strconv_uint64pow10)
 let h4:=put h3 1 (tableOf Rows.laid_marquetry_tree_marks)
 let h5:=put h4 6 #[.iface 290 (.pointer (some ⟨N,0,none⟩))]
 let h6:=put h5 5 #[.iface 290 (.pointer (some ⟨N + 1,0,none⟩))]
 let ls:=rowsOf Rows.laid_marquetry_tree_levels
 let h7:=put h6 3 ((List.range 5).map fun i=>Value.slice (some ⟨N + 2 + i,0,none⟩) (ls.getD i #[]).size (ls.getD i #[]).size).toArray
 let h8:=h7 ++ #[Obj.cells (textOf Rows.laid_strconv_ErrRange) 292 (0,0),Obj.cells (textOf Rows.laid_strconv_ErrSyntax) 292 (0,0)] ++ (ls.map fun l=>Obj.cells l 9 (0,0)).toArray
 { w0 with heap:=h8 }
theorem laid_met (os:Os) (args:Array Value) : laidMet Tryz.prog Rows.runBothRow.laid ((laidWorld os).forCall (fun _ _=>0) ⟨#[],args,[]⟩).memory:=
 (LaidIn.of_run (l:=Rows.runBothRow.laid) (List.range 200) 8 (by kernel_rfl) (by kernel_rfl) (by kernel_rfl) (by kernel_rfl)).met
theorem own : ownKnob Tryz.prog.godebug=none:=by kernel_rfl
theorem i64_of {n:Int} (h : (Lit.int .i64 n).wf=true) : -9223372036854775808≤n∧n≤9223372036854775807:=by
 simp only [Lit.wf,Bool.and_eq_true,decide_eq_true_eq] at h
 exact h
end Go.Proofs.YtechofppmnnomaaGreatDoor.BothWit
