/- Whatever acts and text come in, marquetrykeep.RunAlone returns true: a module that nobody uses changes nothing for those that are there. Conditions: the row's own (the listed tables, and the type that errors.As looks at, hold what the program's text lays). -/
import Derived.Test.YtechofppmnnomaaGreatDoorCards
import Derived.Test.YtechofppmnnomaaGreatDoorTie
import Derived.Test.YtechofppmnnomaaGreatDoorA3
import Derived.Test.YtechofppmnnomaaGreatDoorA35
import Derived.Test.YtechofppmnnomaaGreatDoorA36
namespace Go.Proofs.YtechofppmnnomaaGreatDoor.RunAloneP
open Go.ChangeShapes Go.WideShapes Go.ChangeAt Go.RowKit Go.Lib Go.Mq Go.Mq.Tree Go.Mq.Sym Go.Mq.Run Ul
open Go.ChangeMaps (open_string shut_string)
theorem ahY (os:Os) {H:Type} (enc:TypeId × Value→H) :
  (OpenSpec.ofChange Rows.runAloneSpec).preRow enc Tryz.prog Tryz.f5 Rows.runAloneRow.domain false Rows.runAloneRow.laid ((Iu os).forCall (fun _ _=>0) ⟨#[],#[.slice none 0 0,.string ⟨#[]⟩],[]⟩).memory #[.slice none 0 0,.string ⟨#[]⟩]:=by
 have hw : (DataW.whole enc Tryz.prog ((Iu os).forCall (fun _ _=>0) ⟨#[],#[.slice none 0 0,.string ⟨#[]⟩],[]⟩).memory Tryz.f5.params.toList Rows.runAloneSpec.vars false (#[.slice none 0 0,.string ⟨#[]⟩] : Array Value).toList 8).map (fun x=>(x.1,x.2.1)) =
   some ([.nil,.lit (.string [])],[]):=by kernel_rfl
 obtain⟨⟨x1,x2,x3⟩,hx,hx1⟩:=Option.map_eq_some_iff.1 hw;simp only [Prod.mk.injEq] at hx1;obtain⟨rfl,rfl⟩:=hx1;exact OpenSpec.preRow_of_cond 8 hx (by kernel_rfl) (fun k hk=>by cases hk) (by kernel_rfl) (adZ os _)
set_option maxRecDepth 100000 in
set_option maxHeartbeats 4000000 in
theorem lifted (os:Os) (started : os.Started) (H:Type) (enc:TypeId × Value→H) (F:Stop.Interp) :
  ReturnsInHanded {} Tryz.checked os 5 .any ((OpenSpec.ofChange Rows.runAloneSpec).preRow enc Tryz.prog Tryz.f5 Rows.runAloneRow.domain false Rows.runAloneRow.laid) (((OpenSpec.ofChange Rows.runAloneSpec).at F).post enc Tryz.prog Tryz.f5 false true false false):=by
 refine returnsInHanded_of_row (C:=Tryz.checked) (s:=OpenSpec.ofChange Rows.runAloneSpec) own started (by kernel_rfl) Tryz.func5
  (witness_row_atRef (enc:=enc) (C:=Tryz.checked) false (Iu os) #[.slice none 0 0,.string ⟨#[]⟩] rfl (by kernel_rfl) (by kernel_rfl) (by kernel_rfl) (ahY os enc)) ?_
 intro W base args ds gs before hval0 hW _ _ _ hlaid _ _;have hL:Laid W W.heap.size:=ad4 hlaid;have hE:kL W:=ad3 hlaid;clear hlaid;have hval : ∀ (j:Nat) t v,Tryz.f5.params[j]?=some t→args[j]?=some v→Value.okWide Tryz.prog W .any base t v:=hval0
 have hW':=hW;obtain⟨p,q,WY,ES,rfl,_,_⟩:=hW;have hA:DataW.TrodAll enc Tryz.prog W 0 (fun _=>true) true Tryz.f5.params.toList args.toList ds p:=WY;rw [Tryz.params5] at hA hval;obtain⟨v0,v1,d0,d1,p0,p1,rfl,rfl,rfl,h0,h1⟩:=trodAll_two hA;obtain⟨rfl,rfl⟩:=trodVars_none ES;obtain⟨al,l,cl,rfl,hal,hll,hzl⟩:=afY (hval 0 _ v0 rfl rfl) h0;obtain⟨s,rfl,rfl,rfl,ws⟩:=open_string Tryz.underlying9 (hval 1 _ v1 rfl rfl) h1;have hs : s.data.toList.length≤9223372036854775807:=by rw [← Lib.size_eq];simp only [maxLen] at ws;omega
 clear WY ES hval0;have e1 : ((OpenSpec.ofChange Rows.runAloneSpec).at F).fn H ([d0,.lit (.string s.data.toList)] ++ []) = { results:=[.lit (.bool true)],args:=[d0,.lit (.string s.data.toList)] }:=rfl;refine(show Calls Tryz.prog 5 #[.slice al l.length cl,.string s] W (Holds W) from by rw [← Jl s];exact afC l hll s.data.toList hs (fun y=>y < W.heap.size) al cl W _ hL hE hal (fun y hy=>hy) (fun x hx=>⟨(hzl x hx).text,(hzl x hx).name,(hzl x hx).proc,(hzl x hx).args⟩)).mono ?_;rintro e W' ⟨rfl,hc⟩;have WZ:Below W.heap.size W W':=hc.below (Nat.le_refl _) (by simp);refine⟨_,rfl,_,_,_,[],p0 ++ ([]),[],hW',?_,?_,?_,WZ.frame _,fun h=>by cases h⟩
 ·rw [e1];exact trodAll_mk1 (shut_bool Tryz.underlying4 _)
 ·rw [e1];exact trodAll_mk2 (Below.trod (by kernel_rfl) (by kernel_rfl) (of_decide_eq_true (by kernel_rfl)) h0 WZ (fun x hx=>by simpa using hW'.lt x (by simp [hx]))) (shut_string Tryz.underlying9 ws)
 ·rw [e1];rfl
theorem said:Rows.RunAloneSaid:=
 OpenClaim.holds_of_cond 5 Tryz.f5 rfl rfl rfl rfl rfl rfl rfl ⟨rfl,rfl,rfl,rfl,rfl⟩ rfl rfl rfl rfl rfl (by kernel_rfl) Tryz.func5 (by kernel_rfl)
  (of_decide_eq_true (by kernel_rfl)) (by unfold Func.isWrapper;first|(rw [if_pos (by decide +kernel)];kernel_rfl)|(rw [if_neg (by decide +kernel)];exact⟨rfl,rfl⟩))
  (fun os started H enc _ F0=>by rw [OpenClaim.pre_eq_preRow];exact lifted os started H enc F0)
theorem plain (f:FuncId) (fn:Func) (hf:Tryz.pinned.checked.prog.funcNamed "marquetry/marquetrykeep.RunAlone" = some f) (hfn:Tryz.pinned.checked.prog.funcs[f]?=some fn) :
  true=Tryz.pinned.checked.prog.looks [] ∧ ∀ (j:Nat) t,fn.params[j]?=some t→Tryz.pinned.checked.prog.wantsStandIn t=false:=by
 obtain rfl : f=5:=Option.some.inj ((show Tryz.prog.funcNamed "marquetry/marquetrykeep.RunAlone" = some 5 by kernel_rfl).symm.trans hf) |>.symm
 obtain rfl : fn=Tryz.f5:=(Option.some.inj (Tryz.func5.symm.trans hfn)).symm;refine⟨by kernel_rfl,fun j t ht=>?_⟩;rw [Tryz.params5] at ht;have hm:=Array.mem_of_getElem? ht;simp only [List.mem_toArray,List.mem_cons,List.not_mem_nil,or_false] at hm;rcases hm with rfl|rfl
 ·exact(show Tryz.prog.wantsStandIn 53=false by kernel_rfl)
 ·exact(show Tryz.prog.wantsStandIn 9=false by kernel_rfl)
theorem runAlone_holds:Rows.RunAloneCardSaid:=
 Claim7.holds_tied_plain_at .later [] _ _ _ _ said (fun _ h=>by cases h) (by kernel_rfl) (fun _ h=>by cases h) runAlone_row_tie rfl ⟨rfl,rfl⟩ (by kernel_rfl) rfl plain (by kernel_rfl)
end Go.Proofs.YtechofppmnnomaaGreatDoor.RunAloneP
