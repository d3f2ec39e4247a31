/- Whatever acts and name come in, marquetrykeep.RunKeeps returns true: a module in whose place it stands itself has what it had; one with a variable more has that, 0, and all else. Conditions: the row's own (the listed tables, and the type that errors.As looks at, hold what the program's text lays). -/
import Derived.Test.YtechofppmnnomaaGreatDoorCards
import Derived.Test.YtechofppmnnomaaGreatDoorTie
import Derived.Test.YtechofppmnnomaaGreatDoorB3
import Derived.Test.YtechofppmnnomaaGreatDoorB35
import Derived.Test.YtechofppmnnomaaGreatDoorB36
namespace Go.Proofs.YtechofppmnnomaaGreatDoor.RunKeepsP
open Go.ChangeShapes Go.WideShapes Go.ChangeAt Go.RowKit Go.Lib Go.Mq Go.Mq.Tree Go.Mq.Sym Go.Mq.Run TV
open Go.ChangeMaps (open_string shut_string)
theorem ahQ (os:Os) {H:Type} (enc:TypeId × Value→H) :
  (OpenSpec.ofChange Rows.runKeepsSpec).preRow enc Tryz.prog Tryz.f6 Rows.runKeepsRow.domain false Rows.runKeepsRow.laid ((Ik os).forCall (fun _ _=>0) ⟨#[],#[.slice none 0 0,.string ⟨#[]⟩],[]⟩).memory #[.slice none 0 0,.string ⟨#[]⟩]:=by
 have hw : (DataW.whole enc Tryz.prog ((Ik os).forCall (fun _ _=>0) ⟨#[],#[.slice none 0 0,.string ⟨#[]⟩],[]⟩).memory Tryz.f6.params.toList Rows.runKeepsSpec.vars false (#[.slice none 0 0,.string ⟨#[]⟩] : Array Value).toList 8).map (fun x=>(x.1,x.2.1)) =
   some ([.nil,.lit (.string [])],[]):=by kernel_rfl
 obtain⟨⟨x1,x2,x3⟩,hx,hx1⟩:=Option.map_eq_some_iff.1 hw;simp only [Prod.mk.injEq] at hx1;obtain⟨rfl,rfl⟩:=hx1;exact OpenSpec.preRow_of_cond 8 hx (by kernel_rfl) (fun k hk=>by cases hk) (by kernel_rfl) (adD os _)
set_option maxRecDepth 100000 in
set_option maxHeartbeats 4000000 in
theorem lifted (os:Os) (started : os.Started) (H:Type) (enc:TypeId × Value→H) (F:Stop.Interp) :
  ReturnsInHanded {} Tryz.checked os 6 .any ((OpenSpec.ofChange Rows.runKeepsSpec).preRow enc Tryz.prog Tryz.f6 Rows.runKeepsRow.domain false Rows.runKeepsRow.laid) (((OpenSpec.ofChange Rows.runKeepsSpec).at F).post enc Tryz.prog Tryz.f6 false true false false):=by
 refine returnsInHanded_of_row (C:=Tryz.checked) (s:=OpenSpec.ofChange Rows.runKeepsSpec) own started (by kernel_rfl) Tryz.func6
  (witness_row_atRef (enc:=enc) (C:=Tryz.checked) false (Ik os) #[.slice none 0 0,.string ⟨#[]⟩] rfl (by kernel_rfl) (by kernel_rfl) (by kernel_rfl) (ahQ os enc)) ?_
 intro W base args ds gs before hval0 hW _ _ _ hlaid _ _;have hL:Laid W W.heap.size:=adH hlaid;have hE:kH W:=adG hlaid;clear hlaid;have hval : ∀ (j:Nat) t v,Tryz.f6.params[j]?=some t→args[j]?=some v→Value.okWide Tryz.prog W .any base t v:=hval0
 have hW':=hW;obtain⟨p,q,Wy,Wz,rfl,_,_⟩:=hW;have hA:DataW.TrodAll enc Tryz.prog W 0 (fun _=>true) true Tryz.f6.params.toList args.toList ds p:=Wy;rw [Tryz.params6] at hA hval;obtain⟨v0,v1,d0,d1,p0,p1,rfl,rfl,rfl,h0,h1⟩:=trodAll_two hA;obtain⟨rfl,rfl⟩:=trodVars_none Wz;obtain⟨al,l,cl,rfl,hal,hll,hzl⟩:=afP (hval 0 _ v0 rfl rfl) h0;obtain⟨s,rfl,rfl,rfl,ws⟩:=open_string Tryz.underlying9 (hval 1 _ v1 rfl rfl) h1;have hs : s.data.toList.length≤9223372036854775807:=by rw [← Lib.size_eq];simp only [maxLen] at ws;omega
 clear Wy Wz hval0;have e1 : ((OpenSpec.ofChange Rows.runKeepsSpec).at F).fn H ([d0,.lit (.string s.data.toList)] ++ []) = { results:=[.lit (.bool true)],args:=[d0,.lit (.string s.data.toList)] }:=rfl;refine(show Calls Tryz.prog 6 #[.slice al l.length cl,.string s] W (Holds W) from by rw [← Jb s];exact afk l hll s.data.toList hs (fun y=>y < W.heap.size) al cl W _ hL hE hal (fun y hy=>hy) (fun x hx=>⟨(hzl x hx).text,(hzl x hx).name,(hzl x hx).proc,(hzl x hx).args⟩)).mono ?_;rintro e W' ⟨rfl,hc⟩;have WA:Below W.heap.size W W':=hc.below (Nat.le_refl _) (by simp);refine⟨_,rfl,_,_,_,[],p0 ++ ([]),[],hW',?_,?_,?_,WA.frame _,fun h=>by cases h⟩
 ·rw [e1];exact trodAll_mk1 (shut_bool Tryz.underlying4 _)
 ·rw [e1];exact trodAll_mk2 (Below.trod (by kernel_rfl) (by kernel_rfl) (of_decide_eq_true (by kernel_rfl)) h0 WA (fun x hx=>by simpa using hW'.lt x (by simp [hx]))) (shut_string Tryz.underlying9 ws)
 ·rw [e1];rfl
theorem said:Rows.RunKeepsSaid:=
 OpenClaim.holds_of_cond 6 Tryz.f6 rfl rfl rfl rfl rfl rfl rfl ⟨rfl,rfl,rfl,rfl,rfl⟩ rfl rfl rfl rfl rfl (by kernel_rfl) Tryz.func6 (by kernel_rfl)
  (of_decide_eq_true (by kernel_rfl)) (by unfold Func.isWrapper;first|(rw [if_pos (by decide +kernel)];kernel_rfl)|(rw [if_neg (by decide +kernel)];exact⟨rfl,rfl⟩))
  (fun os started H enc _ F0=>by rw [OpenClaim.pre_eq_preRow];exact lifted os started H enc F0)
theorem plain (f:FuncId) (fn:Func) (hf:Tryz.pinned.checked.prog.funcNamed "marquetry/marquetrykeep.RunKeeps" = some f) (hfn:Tryz.pinned.checked.prog.funcs[f]?=some fn) :
  true=Tryz.pinned.checked.prog.looks [] ∧ ∀ (j:Nat) t,fn.params[j]?=some t→Tryz.pinned.checked.prog.wantsStandIn t=false:=by
 obtain rfl : f=6:=Option.some.inj ((show Tryz.prog.funcNamed "marquetry/marquetrykeep.RunKeeps" = some 6 by kernel_rfl).symm.trans hf) |>.symm
 obtain rfl : fn=Tryz.f6:=(Option.some.inj (Tryz.func6.symm.trans hfn)).symm;refine⟨by kernel_rfl,fun j t ht=>?_⟩;rw [Tryz.params6] at ht;have hm:=Array.mem_of_getElem? ht;simp only [List.mem_toArray,List.mem_cons,List.not_mem_nil,or_false] at hm;rcases hm with rfl|rfl
 ·exact(show Tryz.prog.wantsStandIn 53=false by kernel_rfl)
 ·exact(show Tryz.prog.wantsStandIn 9=false by kernel_rfl)
theorem runKeeps_holds:Rows.RunKeepsCardSaid:=
 Claim7.holds_tied_plain_at .later [] _ _ _ _ said (fun _ h=>by cases h) (by kernel_rfl) (fun _ h=>by cases h) runKeeps_row_tie rfl ⟨rfl,rfl⟩ (by kernel_rfl) rfl plain (by kernel_rfl)
end Go.Proofs.YtechofppmnnomaaGreatDoor.RunKeepsP
