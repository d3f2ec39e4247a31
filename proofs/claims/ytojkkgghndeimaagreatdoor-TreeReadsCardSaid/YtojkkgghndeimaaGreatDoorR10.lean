/- Some texts in one. -/
import Derived.Test.YtojkkgghndeimaaGreatDoorRows
import Derived.Lib.LaidIn
import Derived.Deep.DeepHandedRow
import Derived.Deep.DeepWitnessRowRef
import Derived.ProofKit
import Derived.SizedLaws
import Derived.LaidHandle
import Derived.Test.YtojkkgghndeimaaGreatDoorR1
import Derived.Test.YtojkkgghndeimaaGreatDoorR2
import Derived.Test.YtojkkgghndeimaaGreatDoorR9
namespace Go.Proofs.YtojkkgghndeimaaGreatDoor.ReadWit
open Go.ChangeShapes Go.WideShapes Go.ChangeAt Go.RowKit Go.Lib Go.Mq Go.Mq.Tree Go.Mq.Ref
def tableOf:DataW Unit→Array Value
 | .agg l=>(l.map fun
  | .lit (.int k n)=>Value.int k n
  | .lit (.string s)=>Value.string ⟨s.toArray⟩
  | _=>undef).toArray
 | _=>#[]
def flatOf:DataW Unit→Array Value
 | .agg l=>(l.flatMap fun x=>(tableOf x).toList).toArray
 | _=>#[]
def textOf:DataW Unit→Array Value
 | .iface _ (.ptr (.agg [.lit (.string s)]))=>#[.string ⟨s.toArray⟩]
 | _=>#[]
def rowsOf:DataW Unit→List (Array Value)
 | .agg l=>l.map fun
  | .slice xs _=>tableOf (.agg xs)
  | _=>#[]
 | _=>[]
noncomputable def laidWorld (os:Os):World:=
 let w0:=World.holding Tryz.prog os ⟨#[],#[],[]⟩
 let put (h:Array Obj) (g:Nat) (cs:Array Value):Array Obj:=h.modify g fun
  | .cells _ t frozen=>.cells cs t frozen
  | o=>o
 let N:=w0.heap.size
 let h1:=put w0.heap 11 (tableOf Rows.laid_math_bits_deBruijn32tab)
 let h2:=put h1 12 (tableOf Rows.laid_math_bits_deBruijn64tab)
 let h3:=put h2 8 (tableOf Rows.laid_internal_strconv_uint64pow10)
 let h4:=put h3 1 (tableOf Rows.laid_marquetry_tree_marks)
 let h5:=put h4 7 #[.iface 301 (.pointer (some ⟨N,0,none⟩))]
 let h6:=put h5 6 #[.iface 301 (.pointer (some ⟨N + 1,0,none⟩))]
 let ls:=rowsOf Rows.laid_marquetry_tree_levels
 let h7:=put h6 2 ((List.range 5).map fun i=>Value.slice (some ⟨N + 2 + i,0,none⟩) (ls.getD i #[]).size (ls.getD i #[]).size).toArray
 let h8:=h7 ++ #[Obj.cells (textOf Rows.laid_strconv_ErrRange) 303 (0,0),Obj.cells (textOf Rows.laid_strconv_ErrSyntax) 303 (0,0)] ++ (ls.map fun l=>Obj.cells l 9 (0,0)).toArray
 let h9:=put h8 5 #[.iface 213 (.agg #[.pointer (some ⟨13,38,none⟩)])]
 let h10:=put h9 0 (tableOf Rows.laid_marquetry_marquetryref_Fine)
 let h11:=put h10 3 (tableOf Rows.laid_marquetry_marquetryref_levels)
 let h12:=put h11 10 (flatOf Rows.laid_unicode_utf8_acceptRanges)
 let h13:=put h12 9 (tableOf Rows.laid_unicode_utf8_first)
 { w0 with heap:=h13 }
def tables:List (String × DataW Unit):=Rows.treeReadsRow.laid.filter fun x=>x.2.handleName?.isNone
theorem tables_are : tables=[("math/bits.deBruijn32tab",Rows.laid_math_bits_deBruijn32tab),("math/bits.deBruijn64tab",Rows.laid_math_bits_deBruijn64tab),("internal/strconv.uint64pow10",Rows.laid_internal_strconv_uint64pow10),("unicode/utf8.acceptRanges",Rows.laid_unicode_utf8_acceptRanges),("strconv.ErrRange",Rows.laid_strconv_ErrRange),("strconv.ErrSyntax",Rows.laid_strconv_ErrSyntax),("marquetry/marquetryref.Fine",Rows.laid_marquetry_marquetryref_Fine),("marquetry/marquetryref.levels",Rows.laid_marquetry_marquetryref_levels),("marquetry/tree.marks",Rows.laid_marquetry_tree_marks),("marquetry/tree.levels",Rows.laid_marquetry_tree_levels),("unicode/utf8.first",Rows.laid_unicode_utf8_first)]:=by kernel_rfl
theorem laid_met (os:Os) (args:Array Value) : laidMetH Tryz.prog Rows.treeReadsRow.laid ((laidWorld os).forCall (fun _ _=>0) ⟨#[],args,[]⟩).memory:=
 laidMetH_of_parts (LaidIn.of_run (l:=tables) (List.range 200) 8 (by kernel_rfl) (by kernel_rfl) (by kernel_rfl) (by kernel_rfl)).met (by kernel_rfl)
theorem et:Tryz.prog.globalNamed "errors.errorType" = some 5:=by kernel_rfl
theorem rt : (Tryz.prog.cutTypes.find? (·.1 == "internal/reflectlite.rtype")).map (·.2)=some 213:=by kernel_rfl
theorem oneRow : ((List.range 335).filter fun t=>Tryz.prog.rowNamed t [101,114,114,111,114])=[38]:=by kernel_rfl
theorem typesSize:Tryz.prog.types.size=335:=by kernel_rfl
theorem err_of_laid {W:World} (h : laidMetH Tryz.prog Rows.treeReadsRow.laid W):ErrLaid W:=by
 have h' : laidMet Tryz.prog tables W∧handlesMet Tryz.prog [("errors.errorType",Rows.laid_errors_errorType)] W:=h
 obtain ⟨name,u,ty,e1,e2,e3,e4,e5⟩:=h'.2 _ (List.mem_singleton.2 rfl)
 have en : name=[101,114,114,111,114]:=(Option.some.inj e1).symm
 subst en
 obtain rfl:=Option.some.inj (rt.symm.trans e2)
 have hm : ty∈(List.range 335).filter fun t=>Tryz.prog.rowNamed t [101,114,114,111,114]:=List.mem_filter.2 ⟨List.mem_range.2 (by rw [← typesSize]; exact e3),e4⟩
 rw [oneRow] at hm
 obtain rfl:=List.mem_singleton.1 hm
 have hh : typeHandle Tryz.prog 38 = .pointer (some ⟨13,38,none⟩):=by kernel_rfl
 rw [hh] at e5
 unfold ErrLaid
 simpa using World.var?_cell et e5 0
theorem tables_of_laid {W:World} (h : laidMetH Tryz.prog Rows.treeReadsRow.laid W) (hsh:W.ShapedOpen Tryz.prog):Laid W W.heap.size∧RLaid W W.heap.size:=by
 have h' : laidMet Tryz.prog tables W∧handlesMet Tryz.prog [("errors.errorType",Rows.laid_errors_errorType)] W:=h
 have h1:=h'.1
 rw [tables_are] at h1
 rw [← Go.MakeChecks.laidMetH_plain _ _ _ (by kernel_rfl)] at h1
 have hL:=laid_of h1 (by kernel_rfl) (.tail _ (.tail _ (.head _))) ⟨_,_,(.tail _ (.tail _ (.tail _ (.tail _ (.head _)))))⟩ ⟨_,_,(.tail _ (.tail _ (.tail _ (.tail _ (.tail _ (.head _))))))⟩ (.tail _ (.tail _ (.tail _ (.tail _ (.tail _ (.tail _ (.tail _ (.tail _ (.head _))))))))) (.tail _ (.tail _ (.tail _ (.tail _ (.tail _ (.tail _ (.tail _ (.tail _ (.tail _ (.head _))))))))))
 exact ⟨hL,rlaid_of hL h1 (by kernel_rfl) hsh (.tail _ (.tail _ (.tail _ (.tail _ (.tail _ (.tail _ (.head _))))))) (.tail _ (.tail _ (.tail _ (.tail _ (.tail _ (.tail _ (.tail _ (.head _))))))))⟩
theorem own : ownKnob Tryz.prog.godebug=none:=by kernel_rfl
end Go.Proofs.YtojkkgghndeimaaGreatDoor.ReadWit
