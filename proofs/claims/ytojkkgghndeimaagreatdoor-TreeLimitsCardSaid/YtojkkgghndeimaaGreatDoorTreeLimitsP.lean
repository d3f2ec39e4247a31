/- Whatever numbers and name come in, marquetrylaw.TreeLimits returns true: how deep, how much, and how many, at most, is the document's. Conditions: the row's own (the listed tables, and the type that errors.As looks at, hold what the program's text lays). -/
import Derived.Test.YtojkkgghndeimaaGreatDoorCards
import Derived.Test.YtojkkgghndeimaaGreatDoorTie
import Derived.Test.YtojkkgghndeimaaGreatDoorL10
import Derived.Test.YtojkkgghndeimaaGreatDoorL18
namespace Go.Proofs.YtojkkgghndeimaaGreatDoor.TreeLimitsP
open Go.ChangeShapes Go.WideShapes Go.ChangeAt Go.RowKit Go.Lib Go.Mq Go.Mq.Tree Go.Mq.Ref LimWit
open Go.ChangeMaps (open_string shut_string)
theorem witness_row (os:Os) {H:Type} (enc:TypeId × Value→H) :
  (OpenSpec.ofChange Rows.treeLimitsSpec).preRow enc Tryz.prog Tryz.f3 Rows.treeLimitsRow.domain false Rows.treeLimitsRow.laid ((laidWorld os).forCall (fun _ _=>0) ⟨#[],#[.int .i64 0,.int .i64 0,.string ⟨#[]⟩],[]⟩).memory #[.int .i64 0,.int .i64 0,.string ⟨#[]⟩]:=by
 have hw : (DataW.whole enc Tryz.prog ((laidWorld os).forCall (fun _ _=>0) ⟨#[],#[.int .i64 0,.int .i64 0,.string ⟨#[]⟩],[]⟩).memory Tryz.f3.params.toList Rows.treeLimitsSpec.vars false (#[.int .i64 0,.int .i64 0,.string ⟨#[]⟩] : Array Value).toList 8).map (fun x=>(x.1,x.2.1)) =
   some ([.lit (.int .i64 0),.lit (.int .i64 0),.lit (.string [])],[]):=by kernel_rfl
 obtain ⟨⟨x1,x2,x3⟩,hx,hx1⟩:=Option.map_eq_some_iff.1 hw
 simp only [Prod.mk.injEq] at hx1
 obtain ⟨rfl,rfl⟩:=hx1
 exact OpenSpec.preRow_of_cond 8 hx (by kernel_rfl) (fun k hk=>by cases hk) (by kernel_rfl) (laid_met os _)
set_option maxRecDepth 100000 in
set_option maxHeartbeats 4000000 in
theorem lifted (os:Os) (started : os.Started) (H:Type) (enc:TypeId × Value→H) (F:Stop.Interp) :
  ReturnsInHanded {} Tryz.checked os 3 .any ((OpenSpec.ofChange Rows.treeLimitsSpec).preRow enc Tryz.prog Tryz.f3 Rows.treeLimitsRow.domain false Rows.treeLimitsRow.laid) (((OpenSpec.ofChange Rows.treeLimitsSpec).at F).post enc Tryz.prog Tryz.f3 false true false false):=by
 refine returnsInHanded_of_row (C:=Tryz.checked) (s:=OpenSpec.ofChange Rows.treeLimitsSpec) own started (by kernel_rfl) Tryz.func3
  (witness_row_atRef (enc:=enc) (C:=Tryz.checked) false (laidWorld os) #[.int .i64 0,.int .i64 0,.string ⟨#[]⟩] rfl (by kernel_rfl) (by kernel_rfl) (by kernel_rfl) (witness_row os enc)) ?_
 intro W base args ds gs before hval0 hW _ _ _ hlaid hsh _
 obtain ⟨hL,hR⟩:=tables_of_laid hlaid hsh
 have hE:ErrLaid W:=err_of_laid hlaid
 clear hlaid
 have hval : ∀ (j:Nat) t v,Tryz.f3.params[j]?=some t→args[j]?=some v→Value.okWide Tryz.prog W .any base t v:=hval0
 have hW':=hW
 obtain ⟨p,q,hA0,hV0,rfl,_,_⟩:=hW
 have hA:DataW.TrodAll enc Tryz.prog W 0 (fun _=>true) true Tryz.f3.params.toList args.toList ds p:=hA0
 rw [Tryz.params3] at hA hval
 obtain ⟨v0,v1,v2,d0,d1,d2,p0,p1,p2,rfl,rfl,rfl,h0,h1,h2⟩:=trodAll_three hA
 obtain ⟨rfl,rfl⟩:=trodVars_none hV0
 obtain ⟨n,rfl,rfl,rfl,wn⟩:=open_int Tryz.underlying3 (hval 0 _ v0 rfl rfl) h0
 obtain ⟨m,rfl,rfl,rfl,wm⟩:=open_int Tryz.underlying3 (hval 1 _ v1 rfl rfl) h1
 obtain ⟨s,rfl,rfl,rfl,ws⟩:=open_string Tryz.underlying9 (hval 2 _ v2 rfl rfl) h2
 have hs : s.data.toList.length≤9223372036854775807:=by rw [← Lib.size_eq]; simp only [maxLen] at ws; omega
 clear hA0 hV0 hval0
 have e1 : ((OpenSpec.ofChange Rows.treeLimitsSpec).at F).fn H ([.lit (.int .i64 n),.lit (.int .i64 m),.lit (.string s.data.toList)] ++ []) = { results:=[.lit (.bool true)],args:=[.lit (.int .i64 n),.lit (.int .i64 m),.lit (.string s.data.toList)] }:=rfl
 refine (show Calls Tryz.prog 3 #[.int .i64 n,.int .i64 m,.string s] W (Yes W) from limits_any n m s W hL hR hE).mono ?_
 rintro e W' ⟨rfl,hc⟩
 have bel:Below W.heap.size W W':=hc.below (Nat.le_refl _) (by simp)
 refine ⟨_,rfl,_,_,_,[],[] ++ ([] ++ ([])),[],hW',?_,?_,?_,bel.frame _,fun h=>by cases h⟩
 ·rw [e1]; exact trodAll_mk1 (shut_bool Tryz.underlying4 _)
 ·rw [e1]; exact trodAll_mk3 (shut_int Tryz.underlying3 wn) (shut_int Tryz.underlying3 wm) (shut_string Tryz.underlying9 ws)
 ·rw [e1]; rfl
theorem said:Rows.TreeLimitsSaid:=
 OpenClaim.holds_of_cond 3 Tryz.f3 rfl rfl rfl rfl rfl rfl rfl ⟨rfl,rfl,rfl,rfl,rfl⟩ rfl rfl rfl rfl rfl (by kernel_rfl) Tryz.func3 (by kernel_rfl)
  (of_decide_eq_true (by kernel_rfl)) (by unfold Func.isWrapper; first | (rw [if_pos (by decide +kernel)]; kernel_rfl) | (rw [if_neg (by decide +kernel)]; exact ⟨rfl,rfl⟩))
  (fun os started H enc _ F0=>by rw [OpenClaim.pre_eq_preRow]; exact lifted os started H enc F0)
theorem plain (f:FuncId) (fn:Func) (hf:Tryz.pinned.checked.prog.funcNamed "marquetry/marquetrylaw.TreeLimits" = some f) (hfn:Tryz.pinned.checked.prog.funcs[f]?=some fn) :
  true=Tryz.pinned.checked.prog.looks [] ∧ ∀ (j:Nat) t,fn.params[j]?=some t→Tryz.pinned.checked.prog.wantsStandIn t=false:=by
 obtain rfl : f=3:=Option.some.inj ((show Tryz.prog.funcNamed "marquetry/marquetrylaw.TreeLimits" = some 3 by kernel_rfl).symm.trans hf) |>.symm
 obtain rfl : fn=Tryz.f3:=(Option.some.inj (Tryz.func3.symm.trans hfn)).symm
 refine ⟨by kernel_rfl,fun j t ht=>?_⟩
 rw [Tryz.params3] at ht
 have hm:=Array.mem_of_getElem? ht
 simp only [List.mem_toArray,List.mem_cons,List.not_mem_nil,or_false] at hm
 rcases hm with rfl | rfl | rfl
 ·exact (show Tryz.prog.wantsStandIn 3=false by kernel_rfl)
 ·exact (show Tryz.prog.wantsStandIn 3=false by kernel_rfl)
 ·exact (show Tryz.prog.wantsStandIn 9=false by kernel_rfl)
theorem treeLimits_holds:Rows.TreeLimitsCardSaid:=
 Claim7.holds_tied_plain_at .later [] _ _ _ _ said (fun _ h=>by cases h) (by kernel_rfl) (fun _ h=>by cases h) treeLimits_row_tie rfl ⟨rfl,rfl⟩ (by kernel_rfl) rfl plain (by kernel_rfl)
end Go.Proofs.YtojkkgghndeimaaGreatDoor.TreeLimitsP
