/- Whatever texts and names come in, marquetrylaw.PlanOrders returns true: in which order any modules come, and which must be built anew, is the document's. Conditions: the row's own (the listed tables, and the type that errors.As looks at, hold what the program's text lays). -/
import Derived.Test.YtojkkgghndeimaaGreatDoorCards
import Derived.Test.YtojkkgghndeimaaGreatDoorTie
import Derived.Test.YtojkkgghndeimaaGreatDoorO11
import Derived.Test.YtojkkgghndeimaaGreatDoorO35
namespace Go.Proofs.YtojkkgghndeimaaGreatDoor.PlanOrdersP
open Go.ChangeShapes Go.WideShapes Go.ChangeAt Go.RowKit Go.Lib Go.Mq Go.Mq.Tree Go.Mq.Ref OrWit
open Go.ChangeMaps (open_string shut_string)
theorem names_below {w:World} {F:Nat→Prop} {l:List (List UInt8)} {a:Option Addr} {c:Nat} (h:NamesAt w F l (.slice a l.length c)):NamesAt w (fun x=>x < w.heap.size) l (.slice a l.length c):=by
 obtain ⟨a',c',he,hl,hr⟩:=h
 cases he
 refine ⟨a,c,rfl,hl,hr.at_,fun h0 p hp=>?_⟩
 subst hp
 obtain ⟨b,o,he,hc⟩:=hr.at_ h0
 cases he
 exact Mq.lt_of_cell (hc 0 _ (List.getElem?_eq_getElem h0))
theorem witness_row (os:Os) {H:Type} (enc:TypeId × Value→H) :
  (OpenSpec.ofChange Rows.planOrdersSpec).preRow enc Tryz.prog Tryz.f6 Rows.planOrdersRow.domain false Rows.planOrdersRow.laid ((laidWorld os).forCall (fun _ _=>0) ⟨#[],#[.slice none 0 0,.slice none 0 0,.slice none 0 0],[]⟩).memory #[.slice none 0 0,.slice none 0 0,.slice none 0 0]:=by
 have hw : (DataW.whole enc Tryz.prog ((laidWorld os).forCall (fun _ _=>0) ⟨#[],#[.slice none 0 0,.slice none 0 0,.slice none 0 0],[]⟩).memory Tryz.f6.params.toList Rows.planOrdersSpec.vars false (#[.slice none 0 0,.slice none 0 0,.slice none 0 0] : Array Value).toList 8).map (fun x=>(x.1,x.2.1)) =
   some ([.nil,.nil,.nil],[]):=by kernel_rfl
 obtain ⟨⟨x1,x2,x3⟩,hx,hx1⟩:=Option.map_eq_some_iff.1 hw
 simp only [Prod.mk.injEq] at hx1
 obtain ⟨rfl,rfl⟩:=hx1
 exact OpenSpec.preRow_of_cond 8 hx (by kernel_rfl) (fun k hk=>by cases hk) (by kernel_rfl) (laid_met os _)
set_option maxRecDepth 100000 in
set_option maxHeartbeats 4000000 in
theorem lifted (os:Os) (started : os.Started) (H:Type) (enc:TypeId × Value→H) (F:Stop.Interp) :
  ReturnsInHanded {} Tryz.checked os 6 .any ((OpenSpec.ofChange Rows.planOrdersSpec).preRow enc Tryz.prog Tryz.f6 Rows.planOrdersRow.domain false Rows.planOrdersRow.laid) (((OpenSpec.ofChange Rows.planOrdersSpec).at F).post enc Tryz.prog Tryz.f6 false true false false):=by
 refine returnsInHanded_of_row (C:=Tryz.checked) (s:=OpenSpec.ofChange Rows.planOrdersSpec) own started (by kernel_rfl) Tryz.func6
  (witness_row_atRef (enc:=enc) (C:=Tryz.checked) false (laidWorld os) #[.slice none 0 0,.slice none 0 0,.slice none 0 0] rfl (by kernel_rfl) (by kernel_rfl) (by kernel_rfl) (witness_row os enc)) ?_
 intro W base args ds gs before hval0 hW _ _ _ hlaid hsh _
 obtain ⟨hL,hR⟩:=tables_of_laid hlaid hsh
 have hE:ErrLaid W:=err_of_laid hlaid
 clear hlaid
 have hval : ∀ (j:Nat) t v,Tryz.f6.params[j]?=some t→args[j]?=some v→Value.okWide Tryz.prog W .any base t v:=hval0
 have hW':=hW
 obtain ⟨p,q,hA0,hV0,rfl,_,_⟩:=hW
 have hA:DataW.TrodAll enc Tryz.prog W 0 (fun _=>true) true Tryz.f6.params.toList args.toList ds p:=hA0
 rw [Tryz.params6] at hA hval
 obtain ⟨v0,v1,v2,d0,d1,d2,p0,p1,p2,rfl,rfl,rfl,h0,h1,h2⟩:=trodAll_three hA
 obtain ⟨rfl,rfl⟩:=trodVars_none hV0
 obtain ⟨ax,x,cx,rfl,hnx,hlx,hzx⟩ : ∃ (a:Option Addr) (l:List (List UInt8)) (c:Nat),v0 = .slice a l.length c∧NamesAt W (fun _=>True) l v0∧l.length≤9223372036854775807 ∧ ∀ n∈l,n.length≤9223372036854775807:=open_names Tryz.underlying25 Tryz.underlying9 (by kernel_rfl) (hval 0 _ v0 rfl rfl) h0
 have hmx:=names_below hnx
 obtain ⟨ay,y,cy,rfl,hny,hly,hzy⟩ : ∃ (a:Option Addr) (l:List (List UInt8)) (c:Nat),v1 = .slice a l.length c∧NamesAt W (fun _=>True) l v1∧l.length≤9223372036854775807 ∧ ∀ n∈l,n.length≤9223372036854775807:=open_names Tryz.underlying25 Tryz.underlying9 (by kernel_rfl) (hval 1 _ v1 rfl rfl) h1
 have hmy:=names_below hny
 obtain ⟨az,z,cz,rfl,hnz,hlz,hzz⟩ : ∃ (a:Option Addr) (l:List (List UInt8)) (c:Nat),v2 = .slice a l.length c∧NamesAt W (fun _=>True) l v2∧l.length≤9223372036854775807 ∧ ∀ n∈l,n.length≤9223372036854775807:=open_names Tryz.underlying25 Tryz.underlying9 (by kernel_rfl) (hval 2 _ v2 rfl rfl) h2
 have hmz:=names_below hnz
 clear hA0 hV0 hval0
 have e1 : ((OpenSpec.ofChange Rows.planOrdersSpec).at F).fn H ([d0,d1,d2] ++ []) = { results:=[.lit (.bool true)],args:=[d0,d1,d2] }:=rfl
 refine (show Calls Tryz.prog 6 #[.slice ax x.length cx,.slice ay y.length cy,.slice az z.length cz] W (fun e w'=>e = .returned (.bool true)∧Chg [] W w') from orders_any x y z hlx hly hlz hzx hzy _ _ _ ax ay az cx cy cz W hR hE hmx hmy hmz).mono ?_
 rintro e W' ⟨rfl,hc⟩
 have bel:Below W.heap.size W W':=hc.below (Nat.le_refl _) (by simp)
 refine ⟨_,rfl,_,_,_,[],p0 ++ (p1 ++ (p2)),[],hW',?_,?_,?_,bel.frame _,fun h=>by cases h⟩
 ·rw [e1]; exact trodAll_mk1 (shut_bool Tryz.underlying4 _)
 ·rw [e1]; exact trodAll_mk3 (Below.trod (by kernel_rfl) (by kernel_rfl) (of_decide_eq_true (by kernel_rfl)) h0 bel (fun x hx=>by simpa using hW'.lt x (by simp [hx]))) (Below.trod (by kernel_rfl) (by kernel_rfl) (of_decide_eq_true (by kernel_rfl)) h1 bel (fun x hx=>by simpa using hW'.lt x (by simp [hx]))) (Below.trod (by kernel_rfl) (by kernel_rfl) (of_decide_eq_true (by kernel_rfl)) h2 bel (fun x hx=>by simpa using hW'.lt x (by simp [hx])))
 ·rw [e1]; rfl
theorem said:Rows.PlanOrdersSaid:=
 OpenClaim.holds_of_cond 6 Tryz.f6 rfl rfl rfl rfl rfl rfl rfl ⟨rfl,rfl,rfl,rfl,rfl⟩ rfl rfl rfl rfl rfl (by kernel_rfl) Tryz.func6 (by kernel_rfl)
  (of_decide_eq_true (by kernel_rfl)) (by unfold Func.isWrapper; first | (rw [if_pos (by decide +kernel)]; kernel_rfl) | (rw [if_neg (by decide +kernel)]; exact ⟨rfl,rfl⟩))
  (fun os started H enc _ F0=>by rw [OpenClaim.pre_eq_preRow]; exact lifted os started H enc F0)
theorem plain (f:FuncId) (fn:Func) (hf:Tryz.pinned.checked.prog.funcNamed "marquetry/marquetrylaw.PlanOrders" = some f) (hfn:Tryz.pinned.checked.prog.funcs[f]?=some fn) :
  true=Tryz.pinned.checked.prog.looks [] ∧ ∀ (j:Nat) t,fn.params[j]?=some t→Tryz.pinned.checked.prog.wantsStandIn t=false:=by
 obtain rfl : f=6:=Option.some.inj ((show Tryz.prog.funcNamed "marquetry/marquetrylaw.PlanOrders" = some 6 by kernel_rfl).symm.trans hf) |>.symm
 obtain rfl : fn=Tryz.f6:=(Option.some.inj (Tryz.func6.symm.trans hfn)).symm
 refine ⟨by kernel_rfl,fun j t ht=>?_⟩
 rw [Tryz.params6] at ht
 have hm:=Array.mem_of_getElem? ht
 simp only [List.mem_toArray,List.mem_cons,List.not_mem_nil,or_false] at hm
 rcases hm with rfl | rfl | rfl
 ·exact (show Tryz.prog.wantsStandIn 25=false by kernel_rfl)
 ·exact (show Tryz.prog.wantsStandIn 25=false by kernel_rfl)
 ·exact (show Tryz.prog.wantsStandIn 25=false by kernel_rfl)
theorem planOrders_holds:Rows.PlanOrdersCardSaid:=
 Claim7.holds_tied_plain_at .later [] _ _ _ _ said (fun _ h=>by cases h) (by kernel_rfl) (fun _ h=>by cases h) planOrders_row_tie rfl ⟨rfl,rfl⟩ (by kernel_rfl) rfl plain (by kernel_rfl)
end Go.Proofs.YtojkkgghndeimaaGreatDoor.PlanOrdersP
