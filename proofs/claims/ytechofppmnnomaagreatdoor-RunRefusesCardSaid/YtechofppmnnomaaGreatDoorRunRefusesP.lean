/- Whatever acts come in, marquetrykeep.RunRefuses returns true: a module that is not loaded, or not put in another one's place, and a call that can't be, change nothing. Conditions: the row's own (the listed tables, and the type that errors.As looks at, hold what the program's text lays). -/
import Derived.Test.YtechofppmnnomaaGreatDoorCards
import Derived.Test.YtechofppmnnomaaGreatDoorTie
import Derived.Test.YtechofppmnnomaaGreatDoorG3
import Derived.Test.YtechofppmnnomaaGreatDoorG33
import Derived.Test.YtechofppmnnomaaGreatDoorG34
namespace Go.Proofs.YtechofppmnnomaaGreatDoor.RunRefusesP
open Go.ChangeShapes Go.WideShapes Go.ChangeAt Go.RowKit Go.Lib Go.Mq Go.Mq.Tree Go.Mq.Sym Go.Mq.Run ActWit
open Go.ChangeMaps (open_string shut_string)
theorem witness_row (os:Os) {H:Type} (enc:TypeId × Value→H) :
  (OpenSpec.ofChange Rows.runRefusesSpec).preRow enc Tryz.prog Tryz.f7 Rows.runRefusesRow.domain false Rows.runRefusesRow.laid ((laidWorld os).forCall (fun _ _=>0) ⟨#[],#[.slice none 0 0],[]⟩).memory #[.slice none 0 0]:=by
 have hw : (DataW.whole enc Tryz.prog ((laidWorld os).forCall (fun _ _=>0) ⟨#[],#[.slice none 0 0],[]⟩).memory Tryz.f7.params.toList Rows.runRefusesSpec.vars false (#[.slice none 0 0] : Array Value).toList 8).map (fun x=>(x.1,x.2.1)) =
   some ([.nil],[]):=by kernel_rfl
 obtain⟨⟨x1,x2,x3⟩,hx,hx1⟩:=Option.map_eq_some_iff.1 hw;simp only [Prod.mk.injEq] at hx1;obtain⟨rfl,rfl⟩:=hx1;exact OpenSpec.preRow_of_cond 8 hx (by kernel_rfl) (fun k hk=>by cases hk) (by kernel_rfl) (laid_met os _)
set_option maxRecDepth 100000 in
set_option maxHeartbeats 4000000 in
theorem lifted (os:Os) (started : os.Started) (H:Type) (enc:TypeId × Value→H) (F:Stop.Interp) :
  ReturnsInHanded {} Tryz.checked os 7 .any ((OpenSpec.ofChange Rows.runRefusesSpec).preRow enc Tryz.prog Tryz.f7 Rows.runRefusesRow.domain false Rows.runRefusesRow.laid) (((OpenSpec.ofChange Rows.runRefusesSpec).at F).post enc Tryz.prog Tryz.f7 false true false false):=by
 refine returnsInHanded_of_row (C:=Tryz.checked) (s:=OpenSpec.ofChange Rows.runRefusesSpec) own started (by kernel_rfl) Tryz.func7
  (witness_row_atRef (enc:=enc) (C:=Tryz.checked) false (laidWorld os) #[.slice none 0 0] rfl (by kernel_rfl) (by kernel_rfl) (by kernel_rfl) (witness_row os enc)) ?_
 intro W base args ds gs before hval0 hW _ _ _ hlaid _ _;have hL:Laid W W.heap.size:=tables_of_laid hlaid;have hE:ErrLaid W:=err_of_laid hlaid;clear hlaid;have hval : ∀ (j:Nat) t v,Tryz.f7.params[j]?=some t→args[j]?=some v→Value.okWide Tryz.prog W .any base t v:=hval0
 have hW':=hW;obtain⟨p,q,hA0,hV0,rfl,_,_⟩:=hW;have hA:DataW.TrodAll enc Tryz.prog W 0 (fun _=>true) true Tryz.f7.params.toList args.toList ds p:=hA0;rw [Tryz.params7] at hA hval;obtain⟨v0,d0,rfl,rfl,h0⟩:=trodAll_one hA;obtain⟨rfl,rfl⟩:=trodVars_none hV0;obtain⟨al,l,cl,rfl,hal,hll,hzl⟩:=open_acts (hval 0 _ v0 rfl rfl) h0;clear hA0 hV0 hval0;have e1 : ((OpenSpec.ofChange Rows.runRefusesSpec).at F).fn H ([d0] ++ []) = { results:=[.lit (.bool true)],args:=[d0] }:=rfl;refine(show Calls Tryz.prog 7 #[.slice al l.length cl] W (Holds W) from wrefuses_any l hll (fun y=>y < W.heap.size) al cl W _ hL hE hal (fun y hy=>hy) (fun x hx=>⟨(hzl x hx).text,(hzl x hx).name,(hzl x hx).proc,(hzl x hx).args⟩)).mono ?_;rintro e W' ⟨rfl,hc⟩;have bel:Below W.heap.size W W':=hc.below (Nat.le_refl _) (by simp);refine⟨_,rfl,_,_,_,[],p,[],hW',?_,?_,?_,bel.frame _,fun h=>by cases h⟩
 ·rw [e1];exact trodAll_mk1 (shut_bool Tryz.underlying4 _)
 ·rw [e1];exact trodAll_mk1 (Below.trod (by kernel_rfl) (by kernel_rfl) (of_decide_eq_true (by kernel_rfl)) h0 bel (fun x hx=>by simpa using hW'.lt x (by simp [hx])))
 ·rw [e1];rfl
theorem said:Rows.RunRefusesSaid:=
 OpenClaim.holds_of_cond 7 Tryz.f7 rfl rfl rfl rfl rfl rfl rfl ⟨rfl,rfl,rfl,rfl,rfl⟩ rfl rfl rfl rfl rfl (by kernel_rfl) Tryz.func7 (by kernel_rfl)
  (of_decide_eq_true (by kernel_rfl)) (by unfold Func.isWrapper;first|(rw [if_pos (by decide +kernel)];kernel_rfl)|(rw [if_neg (by decide +kernel)];exact⟨rfl,rfl⟩))
  (fun os started H enc _ F0=>by rw [OpenClaim.pre_eq_preRow];exact lifted os started H enc F0)
theorem plain (f:FuncId) (fn:Func) (hf:Tryz.pinned.checked.prog.funcNamed "marquetry/marquetrykeep.RunRefuses" = some f) (hfn:Tryz.pinned.checked.prog.funcs[f]?=some fn) :
  true=Tryz.pinned.checked.prog.looks [] ∧ ∀ (j:Nat) t,fn.params[j]?=some t→Tryz.pinned.checked.prog.wantsStandIn t=false:=by
 obtain rfl : f=7:=Option.some.inj ((show Tryz.prog.funcNamed "marquetry/marquetrykeep.RunRefuses" = some 7 by kernel_rfl).symm.trans hf) |>.symm
 obtain rfl : fn=Tryz.f7:=(Option.some.inj (Tryz.func7.symm.trans hfn)).symm;refine⟨by kernel_rfl,fun j t ht=>?_⟩;rw [Tryz.params7] at ht;have hm:=Array.mem_of_getElem? ht;simp only [List.mem_toArray,List.mem_cons,List.not_mem_nil,or_false] at hm;subst hm;exact(show Tryz.prog.wantsStandIn 53=false by kernel_rfl)
theorem runRefuses_holds:Rows.RunRefusesCardSaid:=
 Claim7.holds_tied_plain_at .later [] _ _ _ _ said (fun _ h=>by cases h) (by kernel_rfl) (fun _ h=>by cases h) runRefuses_row_tie rfl ⟨rfl,rfl⟩ (by kernel_rfl) rfl plain (by kernel_rfl)
end Go.Proofs.YtechofppmnnomaaGreatDoor.RunRefusesP
