/- Some texts in one. -/
import Derived.Test.YtilhhkokdfajiaaGreatDoorRows
import Derived.Lib.LaidIn
import Derived.Deep.DeepHandedRow
import Derived.Deep.DeepWitnessRowRef
import Derived.ProofKit
import Derived.SizedLaws
import Derived.LaidHandle
import Derived.Test.YtilhhkokdfajiaaGreatDoorI1
import Derived.Test.YtilhhkokdfajiaaGreatDoorI2
namespace Go.Proofs.YtilhhkokdfajiaaGreatDoor.ImpWit
open Go.ChangeShapes Go.WideShapes Go.ChangeAt Go.RowKit Go.Lib Go.Mq Go.Mq.Tree
def tableOf:DataW Unit→Array Value
 | .agg l=>(l.map fun
  | .lit (.int k n)=>Value.int k n
  | .lit (.string s)=>Value.string ⟨s.toArray⟩
  | _=>undef).toArray
 | _=>#[]
def textOf:DataW Unit→Array Value
 | .iface _ (.ptr (.agg [.lit (.string s)]))=>#[.string ⟨s.toArray⟩]
 | _=>#[]
def rowsOf:DataW Unit→List (Array Value)
 | .agg l=>l.map fun
  | .slice xs _=>tableOf (.agg xs)
  | _=>#[]
 | _=>[]
noncomputable def laidWorld (os:Os):World:=
 let w0:=World.holding Tryz.prog os ⟨#[],#[],[]⟩
 let put (h:Array Obj) (g:Nat) (cs:Array Value):Array Obj:=h.modify g fun
  | .cells _ t frozen=>.cells cs t frozen
  | o=>o
 let N:=w0.heap.size
 let h1:=put w0.heap 7 (tableOf Rows.laid_math_bits_deBruijn32tab)
 let h2:=put h1 8 (tableOf Rows.laid_math_bits_deBruijn64tab)
 let h3:=put h2 6 (tableOf Rows.laid_internal_strconv_uint64pow10)
 let h4:=put h3 1 (tableOf Rows.laid_marquetry_tree_marks)
 let h5:=put h4 5 #[.iface 199 (.pointer (some ⟨N,0,none⟩))]
 let h6:=put h5 4 #[.iface 199 (.pointer (some ⟨N + 1,0,none⟩))]
 let ls:=rowsOf Rows.laid_marquetry_tree_levels
 let h7:=put h6 3 ((List.range 5).map fun i=>Value.slice (some ⟨N + 2 + i,0,none⟩) (ls.getD i #[]).size (ls.getD i #[]).size).toArray
 let h8:=h7 ++ #[Obj.cells (textOf Rows.laid_strconv_ErrRange) 201 (0,0),Obj.cells (textOf Rows.laid_strconv_ErrSyntax) 201 (0,0)] ++ (ls.map fun l=>Obj.cells l 9 (0,0)).toArray
 let h9:=put h8 0 #[.iface 145 (.agg #[.pointer (some ⟨9,31,none⟩)])]
 { w0 with heap:=h9 }
def tables:List (String × DataW Unit):=Rows.checkImportsRow.laid.filter fun x=>x.2.handleName?.isNone
theorem tables_are : tables=[("math/bits.deBruijn32tab",Rows.laid_math_bits_deBruijn32tab),("math/bits.deBruijn64tab",Rows.laid_math_bits_deBruijn64tab),("internal/strconv.uint64pow10",Rows.laid_internal_strconv_uint64pow10),("strconv.ErrRange",Rows.laid_strconv_ErrRange),("strconv.ErrSyntax",Rows.laid_strconv_ErrSyntax),("marquetry/tree.marks",Rows.laid_marquetry_tree_marks),("marquetry/tree.levels",Rows.laid_marquetry_tree_levels)]:=by kernel_rfl
theorem laid_met (os:Os) (args:Array Value) : laidMetH Tryz.prog Rows.checkImportsRow.laid ((laidWorld os).forCall (fun _ _=>0) ⟨#[],args,[]⟩).memory:=
 laidMetH_of_parts (LaidIn.of_run (l:=tables) (List.range 200) 8 (by kernel_rfl) (by kernel_rfl) (by kernel_rfl) (by kernel_rfl)).met (by kernel_rfl)
theorem et:Tryz.prog.globalNamed "errors.errorType" = some 0:=by kernel_rfl
theorem rt : (Tryz.prog.cutTypes.find? (·.1 == "internal/reflectlite.rtype")).map (·.2)=some 145:=by kernel_rfl
theorem oneRow : ((List.range 241).filter fun t=>Tryz.prog.rowNamed t [101,114,114,111,114])=[31]:=by kernel_rfl
theorem typesSize:Tryz.prog.types.size=241:=by kernel_rfl
theorem err_of_laid {W:World} (h : laidMetH Tryz.prog Rows.checkImportsRow.laid W):ErrLaid W:=by
 have h' : laidMet Tryz.prog tables W∧handlesMet Tryz.prog [("errors.errorType",Rows.laid_errors_errorType)] W:=h
 obtain ⟨name,u,ty,e1,e2,e3,e4,e5⟩:=h'.2 _ (List.mem_singleton.2 rfl)
 have en : name=[101,114,114,111,114]:=(Option.some.inj e1).symm
 subst en
 obtain rfl:=Option.some.inj (rt.symm.trans e2)
 have hm : ty∈(List.range 241).filter fun t=>Tryz.prog.rowNamed t [101,114,114,111,114]:=List.mem_filter.2 ⟨List.mem_range.2 (by rw [← typesSize]; exact e3),e4⟩
 rw [oneRow] at hm
 obtain rfl:=List.mem_singleton.1 hm
 have hh : typeHandle Tryz.prog 31 = .pointer (some ⟨9,31,none⟩):=by kernel_rfl
 rw [hh] at e5
 unfold ErrLaid
 simpa using World.var?_cell et e5 0
theorem tables_of_laid {W:World} (h : laidMetH Tryz.prog Rows.checkImportsRow.laid W):Laid W W.heap.size:=by
 have h' : laidMet Tryz.prog tables W∧handlesMet Tryz.prog [("errors.errorType",Rows.laid_errors_errorType)] W:=h
 have h1:=h'.1
 rw [tables_are] at h1
 rw [← Go.MakeChecks.laidMetH_plain _ _ _ (by kernel_rfl)] at h1
 exact laid_of h1 (by kernel_rfl) (.tail _ (.tail _ (.head _))) ⟨_,_,.tail _ (.tail _ (.tail _ (.head _)))⟩ ⟨_,_,.tail _ (.tail _ (.tail _ (.tail _ (.head _))))⟩ (.tail _ (.tail _ (.tail _ (.tail _ (.tail _ (.head _)))))) (.tail _ (.tail _ (.tail _ (.tail _ (.tail _ (.tail _ (.head _)))))))
theorem own : ownKnob Tryz.prog.godebug=none:=by kernel_rfl
theorem open_names {H:Type} {enc:TypeId × Value→H} {P:Program} {w:World} {spare:Nat→Bool} {held:Bool} {r:Reach} {b0:Nat} {t e:TypeId} {v:Value} {d:DataW H} {ps:List MemPlace} (ht:P.underlying t=some (.slice e)) (he:P.underlying e=some .string) (hc:P.cellsOf e=1)
  (hval:Value.okWide P w r b0 t v) (hd:DataW.Trod enc P w 0 spare held t v d ps) : ∃ (a:Option Addr) (l:List (List UInt8)) (c:Nat),v = .slice a l.length c∧NamesAt w (fun _=>True) l v∧l.length≤9223372036854775807 ∧ ∀ n∈l,n.length≤9223372036854775807:=by
 obtain ⟨a0,n0,c0,rfl⟩:=okWide_slice ht hval
 obtain ⟨fuel,hf⟩:=hd
 rcases DataW.trod_slice ht hf with ⟨h,_⟩ | ⟨a,len,cap,elems,rest,n,_,h,_,_,hlc,hcm,hel,hget,_⟩
 ·simp [Value.cells] at h
  obtain ⟨rfl,rfl,rfl⟩:=h
  exact ⟨none,[],0,rfl,NamesAt.nil,by simp,fun n hn=>by cases hn⟩
 ·simp [Value.cells] at h
  obtain ⟨rfl,rfl,rfl⟩:=h
  have step : ∀ m,m≤n0 → ∃ l:List (List UInt8),l.length=m∧(∀ (i:Nat) (d:List UInt8),l[i]?=some d→w.cell? (a.add i)=some (str d)) ∧ ∀ d∈l,d.length≤9223372036854775807:=by
   intro m
   induction m with
   | zero=>exact fun _=>⟨[],rfl,fun _ _ h=>by simp at h,fun _ h=>by cases h⟩
   | succ m ih=>
    intro hm
    obtain ⟨l,hl,hcl,hg⟩:=ih (by omega)
    have he1:=hget m (by omega)
    rw [List.getElem?_eq_getElem (by omega),Option.bind_eq_some_iff,hc,Nat.mul_one] at he1
    obtain ⟨cs',hcs,hd⟩:=he1
    obtain ⟨s,rfl,_,hs⟩:=DataW.trod_string he hd
    obtain ⟨_,_,hcell⟩:=World.cells?_some hcs
    have h2 : w.cell? (a.add m)=some (str s.data.toList):=by
     have : w.cell? (a.add m)=[Value.string s][0]?:=hcell 0 (by omega)
     rw [this,str,bs_toList]; rfl
    refine ⟨l ++ [s.data.toList],by simp [hl],fun i d' hi=>?_,fun d' hd'=>?_⟩
    ·rcases Nat.lt_or_ge i l.length with h | h
     ·rw [List.getElem?_append_left h] at hi; exact hcl i d' hi
     ·have hi0 : i=m:=by
       have:=(List.getElem?_eq_some_iff.1 hi).1
       simp at this
       omega
      subst hi0
      rw [List.getElem?_append_right (by omega),hl,Nat.sub_self] at hi
      cases hi
      exact h2
    ·rcases List.mem_append.1 hd' with h | h
     ·exact hg d' h
     ·rw [List.mem_singleton] at h
      subst h
      rw [← Lib.size_eq]
      simp only [maxLen] at hs
      omega
  obtain ⟨l,hl,hcl,hg⟩:=step n0 (Nat.le_refl _)
  refine ⟨some a,l,c0,by rw [hl],⟨some a,c0,by rw [hl],by omega,fun h0=>?_,fun _ _ _=>trivial⟩,by simp only [maxLen] at hcm; omega,hg⟩
  rw [List.length_map] at h0
  obtain ⟨b,off,spot⟩:=a
  have hz:=hcl 0 l[0] (List.getElem?_eq_getElem h0)
  have hspot : spot=none:=by
   have h1:=World.cell?_spot hz
   simp [Addr.add] at h1
   exact h1
  subst hspot
  refine ⟨b,off,rfl,fun i x hx=>?_⟩
  rw [List.getElem?_map,Option.map_eq_some_iff] at hx
  obtain ⟨z,hz1,rfl⟩:=hx
  have:=hcl i z hz1
  rwa [add_plain] at this
end Go.Proofs.YtilhhkokdfajiaaGreatDoor.ImpWit
