/- Whatever text comes in, marquetrylaw.TreeReads returns true: which module any text is, or where it is none, and how it is written, is the document's. Conditions: the row's own (the listed tables, and the type that errors.As looks at, hold what the program's text lays). -/
import Derived.Test.YtojkkgghndeimaaGreatDoorCards
import Derived.Test.YtojkkgghndeimaaGreatDoorTie
import Derived.Test.YtojkkgghndeimaaGreatDoorR10
import Derived.Test.YtojkkgghndeimaaGreatDoorR24
namespace Go.Proofs.YtojkkgghndeimaaGreatDoor.TreeReadsP
open Go.ChangeShapes Go.WideShapes Go.ChangeAt Go.RowKit Go.Lib Go.Mq Go.Mq.Tree Go.Mq.Ref ReadWit
open Go.ChangeMaps (open_string shut_string)
theorem witness_row (os:Os) {H:Type} (enc:TypeId × Value→H) :
  (OpenSpec.ofChange Rows.treeReadsSpec).preRow enc Tryz.prog Tryz.f5 Rows.treeReadsRow.domain false Rows.treeReadsRow.laid ((laidWorld os).forCall (fun _ _=>0) ⟨#[],#[.string ⟨#[]⟩],[]⟩).memory #[.string ⟨#[]⟩]:=by
 have hw : (DataW.whole enc Tryz.prog ((laidWorld os).forCall (fun _ _=>0) ⟨#[],#[.string ⟨#[]⟩],[]⟩).memory Tryz.f5.params.toList Rows.treeReadsSpec.vars false (#[.string ⟨#[]⟩] : Array Value).toList 8).map (fun x=>(x.1,x.2.1)) =
   some ([.lit (.string [])],[]):=by kernel_rfl
 obtain ⟨⟨x1,x2,x3⟩,hx,hx1⟩:=Option.map_eq_some_iff.1 hw
 simp only [Prod.mk.injEq] at hx1
 obtain ⟨rfl,rfl⟩:=hx1
 exact OpenSpec.preRow_of_cond 8 hx (by kernel_rfl) (fun k hk=>by cases hk) (by kernel_rfl) (laid_met os _)
set_option maxRecDepth 100000 in
set_option maxHeartbeats 4000000 in
theorem lifted (os:Os) (started : os.Started) (H:Type) (enc:TypeId × Value→H) (F:Stop.Interp) :
  ReturnsInHanded {} Tryz.checked os 5 .any ((OpenSpec.ofChange Rows.treeReadsSpec).preRow enc Tryz.prog Tryz.f5 Rows.treeReadsRow.domain false Rows.treeReadsRow.laid) (((OpenSpec.ofChange Rows.treeReadsSpec).at F).post enc Tryz.prog Tryz.f5 false true false false):=by
 refine returnsInHanded_of_row (C:=Tryz.checked) (s:=OpenSpec.ofChange Rows.treeReadsSpec) own started (by kernel_rfl) Tryz.func5
  (witness_row_atRef (enc:=enc) (C:=Tryz.checked) false (laidWorld os) #[.string ⟨#[]⟩] rfl (by kernel_rfl) (by kernel_rfl) (by kernel_rfl) (witness_row os enc)) ?_
 intro W base args ds gs before hval0 hW _ _ _ hlaid hsh _
 obtain ⟨hL,hR⟩:=tables_of_laid hlaid hsh
 have hE:ErrLaid W:=err_of_laid hlaid
 clear hlaid
 have hval : ∀ (j:Nat) t v,Tryz.f5.params[j]?=some t→args[j]?=some v→Value.okWide Tryz.prog W .any base t v:=hval0
 have hW':=hW
 obtain ⟨p,q,hA0,hV0,rfl,_,_⟩:=hW
 have hA:DataW.TrodAll enc Tryz.prog W 0 (fun _=>true) true Tryz.f5.params.toList args.toList ds p:=hA0
 rw [Tryz.params5] at hA hval
 obtain ⟨v0,d0,rfl,rfl,h0⟩:=trodAll_one hA
 obtain ⟨rfl,rfl⟩:=trodVars_none hV0
 obtain ⟨s,rfl,rfl,rfl,ws⟩:=open_string Tryz.underlying9 (hval 0 _ v0 rfl rfl) h0
 have hs : s.data.toList.length≤9223372036854775807:=by rw [← Lib.size_eq]; simp only [maxLen] at ws; omega
 clear hA0 hV0 hval0
 have e1 : ((OpenSpec.ofChange Rows.treeReadsSpec).at F).fn H ([.lit (.string s.data.toList)] ++ []) = { results:=[.lit (.bool true)],args:=[.lit (.string s.data.toList)] }:=rfl
 refine (show Calls Tryz.prog 5 #[.string s] W (Yes W) from reads_any s W hL hR hE).mono ?_
 rintro e W' ⟨rfl,hc⟩
 have bel:Below W.heap.size W W':=hc.below (Nat.le_refl _) (by simp)
 refine ⟨_,rfl,_,_,_,[],[],[],hW',?_,?_,?_,bel.frame _,fun h=>by cases h⟩
 ·rw [e1]; exact trodAll_mk1 (shut_bool Tryz.underlying4 _)
 ·rw [e1]; exact trodAll_mk1 (shut_string Tryz.underlying9 ws)
 ·rw [e1]; rfl
theorem said:Rows.TreeReadsSaid:=
 OpenClaim.holds_of_cond 5 Tryz.f5 rfl rfl rfl rfl rfl rfl rfl ⟨rfl,rfl,rfl,rfl,rfl⟩ rfl rfl rfl rfl rfl (by kernel_rfl) Tryz.func5 (by kernel_rfl)
  (of_decide_eq_true (by kernel_rfl)) (by unfold Func.isWrapper; first | (rw [if_pos (by decide +kernel)]; kernel_rfl) | (rw [if_neg (by decide +kernel)]; exact ⟨rfl,rfl⟩))
  (fun os started H enc _ F0=>by rw [OpenClaim.pre_eq_preRow]; exact lifted os started H enc F0)
theorem plain (f:FuncId) (fn:Func) (hf:Tryz.pinned.checked.prog.funcNamed "marquetry/marquetrylaw.TreeReads" = some f) (hfn:Tryz.pinned.checked.prog.funcs[f]?=some fn) :
  true=Tryz.pinned.checked.prog.looks [] ∧ ∀ (j:Nat) t,fn.params[j]?=some t→Tryz.pinned.checked.prog.wantsStandIn t=false:=by
 obtain rfl : f=5:=Option.some.inj ((show Tryz.prog.funcNamed "marquetry/marquetrylaw.TreeReads" = some 5 by kernel_rfl).symm.trans hf) |>.symm
 obtain rfl : fn=Tryz.f5:=(Option.some.inj (Tryz.func5.symm.trans hfn)).symm
 refine ⟨by kernel_rfl,fun j t ht=>?_⟩
 rw [Tryz.params5] at ht
 have hm:=Array.mem_of_getElem? ht
 simp only [List.mem_toArray,List.mem_cons,List.not_mem_nil,or_false] at hm
 subst hm
 exact (show Tryz.prog.wantsStandIn 9=false by kernel_rfl)
theorem treeReads_holds:Rows.TreeReadsCardSaid:=
 Claim7.holds_tied_plain_at .later [] _ _ _ _ said (fun _ h=>by cases h) (by kernel_rfl) (fun _ h=>by cases h) treeReads_row_tie rfl ⟨rfl,rfl⟩ (by kernel_rfl) rfl plain (by kernel_rfl)
end Go.Proofs.YtojkkgghndeimaaGreatDoor.TreeReadsP
