/- Whatever text and numbers come in, marquetrykeep.RunRests returns true: with more fuel it ends just so; with less it tells a beginning. Conditions: the row's own (the listed tables, and the type that errors.As looks at, hold what the program's text lays). -/
import Derived.Test.YtechofppmnnomaaGreatDoorCards
import Derived.Test.YtechofppmnnomaaGreatDoorTie
import Derived.Test.YtechofppmnnomaaGreatDoorG3
import Derived.Test.YtechofppmnnomaaGreatDoorG29
namespace Go.Proofs.YtechofppmnnomaaGreatDoor.RunRestsP
open Go.ChangeShapes Go.WideShapes Go.ChangeAt Go.RowKit Go.Lib Go.Mq Go.Mq.Tree Go.Mq.Sym Go.Mq.Run RestsWit
open Go.ChangeMaps (open_string shut_string)
theorem witness_row (os:Os) {H:Type} (enc:TypeId × Value→H) :
  (OpenSpec.ofChange Rows.runRestsSpec).preRow enc Tryz.prog Tryz.f4 Rows.runRestsRow.domain false Rows.runRestsRow.laid ((laidWorld os).forCall (fun _ _=>0) ⟨#[],#[.string ⟨#[]⟩,.int .i64 0,.int .i64 0],[]⟩).memory #[.string ⟨#[]⟩,.int .i64 0,.int .i64 0]:=by
 have hw : (DataW.whole enc Tryz.prog ((laidWorld os).forCall (fun _ _=>0) ⟨#[],#[.string ⟨#[]⟩,.int .i64 0,.int .i64 0],[]⟩).memory Tryz.f4.params.toList Rows.runRestsSpec.vars false (#[.string ⟨#[]⟩,.int .i64 0,.int .i64 0] : Array Value).toList 8).map (fun x=>(x.1,x.2.1)) =
   some ([.lit (.string []),.lit (.int .i64 0),.lit (.int .i64 0)],[]):=by kernel_rfl
 obtain⟨⟨x1,x2,x3⟩,hx,hx1⟩:=Option.map_eq_some_iff.1 hw;simp only [Prod.mk.injEq] at hx1;obtain⟨rfl,rfl⟩:=hx1;exact OpenSpec.preRow_of_cond 8 hx (by kernel_rfl) (fun k hk=>by cases hk) (by kernel_rfl) (laid_met os _)
set_option maxRecDepth 100000 in
set_option maxHeartbeats 4000000 in
theorem lifted (os:Os) (started : os.Started) (H:Type) (enc:TypeId × Value→H) (F:Stop.Interp) :
  ReturnsInHanded {} Tryz.checked os 4 .any ((OpenSpec.ofChange Rows.runRestsSpec).preRow enc Tryz.prog Tryz.f4 Rows.runRestsRow.domain false Rows.runRestsRow.laid) (((OpenSpec.ofChange Rows.runRestsSpec).at F).post enc Tryz.prog Tryz.f4 false true false false):=by
 refine returnsInHanded_of_row (C:=Tryz.checked) (s:=OpenSpec.ofChange Rows.runRestsSpec) own started (by kernel_rfl) Tryz.func4
  (witness_row_atRef (enc:=enc) (C:=Tryz.checked) false (laidWorld os) #[.string ⟨#[]⟩,.int .i64 0,.int .i64 0] rfl (by kernel_rfl) (by kernel_rfl) (by kernel_rfl) (witness_row os enc)) ?_
 intro W base args ds gs before hval0 hW _ _ _ hlaid _ _;have hL:Laid W W.heap.size:=tables_of_laid hlaid;have hE:ErrLaid W:=err_of_laid hlaid;clear hlaid;have hval : ∀ (j:Nat) t v,Tryz.f4.params[j]?=some t→args[j]?=some v→Value.okWide Tryz.prog W .any base t v:=hval0
 have hW':=hW;obtain⟨p,q,hA0,hV0,rfl,_,_⟩:=hW;have hA:DataW.TrodAll enc Tryz.prog W 0 (fun _=>true) true Tryz.f4.params.toList args.toList ds p:=hA0;rw [Tryz.params4] at hA hval;obtain⟨v0,v1,v2,d0,d1,d2,p0,p1,p2,rfl,rfl,rfl,h0,h1,h2⟩:=trodAll_three hA;obtain⟨rfl,rfl⟩:=trodVars_none hV0;obtain⟨s,rfl,rfl,rfl,ws⟩:=open_string Tryz.underlying9 (hval 0 _ v0 rfl rfl) h0;have hs : s.data.toList.length≤9223372036854775807:=by rw [← Lib.size_eq];simp only [maxLen] at ws;omega
 obtain⟨a,rfl,rfl,rfl,wa⟩:=open_int Tryz.underlying3 (hval 1 _ v1 rfl rfl) h1;obtain⟨b,rfl,rfl,rfl,wb⟩:=open_int Tryz.underlying3 (hval 2 _ v2 rfl rfl) h2;clear hA0 hV0 hval0;have e1 : ((OpenSpec.ofChange Rows.runRestsSpec).at F).fn H ([.lit (.string s.data.toList),.lit (.int .i64 a),.lit (.int .i64 b)] ++ []) = { results:=[.lit (.bool true)],args:=[.lit (.string s.data.toList),.lit (.int .i64 a),.lit (.int .i64 b)] }:=rfl;refine(show Calls Tryz.prog 4 #[.string s,.int .i64 a,.int .i64 b] W (Holds W) from by rw [← bs_toList s];exact wrests_any s.data.toList a b hs W _ hL hE).mono ?_;rintro e W' ⟨rfl,hc⟩;have bel:Below W.heap.size W W':=hc.below (Nat.le_refl _) (by simp);refine⟨_,rfl,_,_,_,[],[] ++ ([] ++ ([])),[],hW',?_,?_,?_,bel.frame _,fun h=>by cases h⟩
 ·rw [e1];exact trodAll_mk1 (shut_bool Tryz.underlying4 _)
 ·rw [e1];exact trodAll_mk3 (shut_string Tryz.underlying9 ws) (shut_int Tryz.underlying3 wa) (shut_int Tryz.underlying3 wb)
 ·rw [e1];rfl
theorem said:Rows.RunRestsSaid:=
 OpenClaim.holds_of_cond 4 Tryz.f4 rfl rfl rfl rfl rfl rfl rfl ⟨rfl,rfl,rfl,rfl,rfl⟩ rfl rfl rfl rfl rfl (by kernel_rfl) Tryz.func4 (by kernel_rfl)
  (of_decide_eq_true (by kernel_rfl)) (by unfold Func.isWrapper;first|(rw [if_pos (by decide +kernel)];kernel_rfl)|(rw [if_neg (by decide +kernel)];exact⟨rfl,rfl⟩))
  (fun os started H enc _ F0=>by rw [OpenClaim.pre_eq_preRow];exact lifted os started H enc F0)
theorem plain (f:FuncId) (fn:Func) (hf:Tryz.pinned.checked.prog.funcNamed "marquetry/marquetrykeep.RunRests" = some f) (hfn:Tryz.pinned.checked.prog.funcs[f]?=some fn) :
  true=Tryz.pinned.checked.prog.looks [] ∧ ∀ (j:Nat) t,fn.params[j]?=some t→Tryz.pinned.checked.prog.wantsStandIn t=false:=by
 obtain rfl : f=4:=Option.some.inj ((show Tryz.prog.funcNamed "marquetry/marquetrykeep.RunRests" = some 4 by kernel_rfl).symm.trans hf) |>.symm
 obtain rfl : fn=Tryz.f4:=(Option.some.inj (Tryz.func4.symm.trans hfn)).symm;refine⟨by kernel_rfl,fun j t ht=>?_⟩;rw [Tryz.params4] at ht;have hm:=Array.mem_of_getElem? ht;simp only [List.mem_toArray,List.mem_cons,List.not_mem_nil,or_false] at hm;rcases hm with rfl|rfl|rfl
 ·exact(show Tryz.prog.wantsStandIn 9=false by kernel_rfl)
 ·exact(show Tryz.prog.wantsStandIn 3=false by kernel_rfl)
 ·exact(show Tryz.prog.wantsStandIn 3=false by kernel_rfl)
theorem runRests_holds:Rows.RunRestsCardSaid:=
 Claim7.holds_tied_plain_at .later [] _ _ _ _ said (fun _ h=>by cases h) (by kernel_rfl) (fun _ h=>by cases h) runRests_row_tie rfl ⟨rfl,rfl⟩ (by kernel_rfl) rfl plain (by kernel_rfl)
end Go.Proofs.YtechofppmnnomaaGreatDoor.RunRestsP
