/- Whatever text and others come in, marquetrykeep.CheckImports returns true: a module of which nothing is found is found nothing of where of all others just what it uses is seen; and one of these less, something is found. Conditions: the row's own (the listed tables, and the type that errors.As looks at, hold what the program's text lays). -/
import Derived.Test.YtilhhkokdfajiaaGreatDoorCards
import Derived.Test.YtilhhkokdfajiaaGreatDoorTie
import Derived.Test.YtilhhkokdfajiaaGreatDoorI3
import Derived.Test.YtilhhkokdfajiaaGreatDoorI26
namespace Go.Proofs.YtilhhkokdfajiaaGreatDoor.CheckImportsP
open Go.ChangeShapes Go.WideShapes Go.ChangeAt Go.RowKit Go.Lib Go.Mq Go.Mq.Tree Go.Mq.Sym ImpWit
open Go.ChangeMaps (open_string shut_string)
theorem names_below {w:World} {F:Nat→Prop} {l:List (List UInt8)} {a:Option Addr} {c:Nat} (h:NamesAt w F l (.slice a l.length c)):NamesAt w (fun x=>x < w.heap.size) l (.slice a l.length c):=by
 obtain ⟨a',c',he,hl,hr⟩:=h
 cases he
 refine ⟨a,c,rfl,hl,hr.at_,fun h0 p hp=>?_⟩
 subst hp
 obtain ⟨b,o,he,hc⟩:=hr.at_ h0
 cases he
 exact Mq.lt_of_cell (hc 0 _ (List.getElem?_eq_getElem h0))
theorem witness_row (os:Os) {H:Type} (enc:TypeId × Value→H) :
  (OpenSpec.ofChange Rows.checkImportsSpec).preRow enc Tryz.prog Tryz.f3 Rows.checkImportsRow.domain false Rows.checkImportsRow.laid ((laidWorld os).forCall (fun _ _=>0) ⟨#[],#[.string ⟨#[]⟩,.slice none 0 0],[]⟩).memory #[.string ⟨#[]⟩,.slice none 0 0]:=by
 have hw : (DataW.whole enc Tryz.prog ((laidWorld os).forCall (fun _ _=>0) ⟨#[],#[.string ⟨#[]⟩,.slice none 0 0],[]⟩).memory Tryz.f3.params.toList Rows.checkImportsSpec.vars false (#[.string ⟨#[]⟩,.slice none 0 0] : Array Value).toList 8).map (fun x=>(x.1,x.2.1)) =
   some ([.lit (.string []),.nil],[]):=by kernel_rfl
 obtain ⟨⟨x1,x2,x3⟩,hx,hx1⟩:=Option.map_eq_some_iff.1 hw
 simp only [Prod.mk.injEq] at hx1
 obtain ⟨rfl,rfl⟩:=hx1
 exact OpenSpec.preRow_of_cond 8 hx (by kernel_rfl) (fun k hk=>by cases hk) (by kernel_rfl) (laid_met os _)
set_option maxRecDepth 100000 in
set_option maxHeartbeats 4000000 in
theorem lifted (os:Os) (started : os.Started) (H:Type) (enc:TypeId × Value→H) (F:Stop.Interp) :
  ReturnsInHanded {} Tryz.checked os 3 .any ((OpenSpec.ofChange Rows.checkImportsSpec).preRow enc Tryz.prog Tryz.f3 Rows.checkImportsRow.domain false Rows.checkImportsRow.laid) (((OpenSpec.ofChange Rows.checkImportsSpec).at F).post enc Tryz.prog Tryz.f3 false true false false):=by
 refine returnsInHanded_of_row (C:=Tryz.checked) (s:=OpenSpec.ofChange Rows.checkImportsSpec) own started (by kernel_rfl) Tryz.func3
  (witness_row_atRef (enc:=enc) (C:=Tryz.checked) false (laidWorld os) #[.string ⟨#[]⟩,.slice none 0 0] rfl (by kernel_rfl) (by kernel_rfl) (by kernel_rfl) (witness_row os enc)) ?_
 intro W base args ds gs before hval0 hW _ _ _ hlaid _ _
 have hL:Laid W W.heap.size:=tables_of_laid hlaid
 have hE:ErrLaid W:=err_of_laid hlaid
 clear hlaid
 have hval : ∀ (j:Nat) t v,Tryz.f3.params[j]?=some t→args[j]?=some v→Value.okWide Tryz.prog W .any base t v:=hval0
 have hW':=hW
 obtain ⟨p,q,hA0,hV0,rfl,_,_⟩:=hW
 have hA:DataW.TrodAll enc Tryz.prog W 0 (fun _=>true) true Tryz.f3.params.toList args.toList ds p:=hA0
 rw [Tryz.params3] at hA hval
 obtain ⟨v0,v1,d0,d1,p0,p1,rfl,rfl,rfl,h0,h1⟩:=trodAll_two hA
 obtain ⟨rfl,rfl⟩:=trodVars_none hV0
 obtain ⟨s,rfl,rfl,rfl,ws⟩:=open_string Tryz.underlying9 (hval 0 _ v0 rfl rfl) h0
 have hs : s.data.toList.length≤9223372036854775807:=by rw [← Lib.size_eq]; simp only [maxLen] at ws; omega
 obtain ⟨al,l,cl,rfl,hnl,hll,hzl⟩ : ∃ (a:Option Addr) (l:List (List UInt8)) (c:Nat),v1 = .slice a l.length c∧NamesAt W (fun _=>True) l v1∧l.length≤9223372036854775807 ∧ ∀ n∈l,n.length≤9223372036854775807:=open_names Tryz.underlying22 Tryz.underlying9 (by kernel_rfl) (hval 1 _ v1 rfl rfl) h1
 have hml:=names_below hnl
 clear hA0 hV0 hval0
 have e1 : ((OpenSpec.ofChange Rows.checkImportsSpec).at F).fn H ([.lit (.string s.data.toList),d1] ++ []) = { results:=[.lit (.bool true)],args:=[.lit (.string s.data.toList),d1] }:=rfl
 refine (show Calls Tryz.prog 3 #[.string s,.slice al l.length cl] W (fun e w'=>e = .returned (.bool true)∧Chg [] W w') by have:=imports_any s.data.toList l hs hll hzl _ al cl W _ hL hE (fun _ h=>h) hml; rwa [str,bs_toList] at this).mono ?_
 rintro e W' ⟨rfl,hc⟩
 have bel:Below W.heap.size W W':=hc.below (Nat.le_refl _) (by simp)
 refine ⟨_,rfl,_,_,_,[],[] ++ (p1),[],hW',?_,?_,?_,bel.frame _,fun h=>by cases h⟩
 ·rw [e1]; exact trodAll_mk1 (shut_bool Tryz.underlying4 _)
 ·rw [e1]; exact trodAll_mk2 (shut_string Tryz.underlying9 ws) (Below.trod (by kernel_rfl) (by kernel_rfl) (of_decide_eq_true (by kernel_rfl)) h1 bel (fun x hx=>by simpa using hW'.lt x (by simp [hx])))
 ·rw [e1]; rfl
theorem said:Rows.CheckImportsSaid:=
 OpenClaim.holds_of_cond 3 Tryz.f3 rfl rfl rfl rfl rfl rfl rfl ⟨rfl,rfl,rfl,rfl,rfl⟩ rfl rfl rfl rfl rfl (by kernel_rfl) Tryz.func3 (by kernel_rfl)
  (of_decide_eq_true (by kernel_rfl)) (by unfold Func.isWrapper; first | (rw [if_pos (by decide +kernel)]; kernel_rfl) | (rw [if_neg (by decide +kernel)]; exact ⟨rfl,rfl⟩))
  (fun os started H enc _ F0=>by rw [OpenClaim.pre_eq_preRow]; exact lifted os started H enc F0)
theorem plain (f:FuncId) (fn:Func) (hf:Tryz.pinned.checked.prog.funcNamed "marquetry/marquetrykeep.CheckImports" = some f) (hfn:Tryz.pinned.checked.prog.funcs[f]?=some fn) :
  true=Tryz.pinned.checked.prog.looks [] ∧ ∀ (j:Nat) t,fn.params[j]?=some t→Tryz.pinned.checked.prog.wantsStandIn t=false:=by
 obtain rfl : f=3:=Option.some.inj ((show Tryz.prog.funcNamed "marquetry/marquetrykeep.CheckImports" = some 3 by kernel_rfl).symm.trans hf) |>.symm
 obtain rfl : fn=Tryz.f3:=(Option.some.inj (Tryz.func3.symm.trans hfn)).symm
 refine ⟨by kernel_rfl,fun j t ht=>?_⟩
 rw [Tryz.params3] at ht
 have hm:=Array.mem_of_getElem? ht
 simp only [List.mem_toArray,List.mem_cons,List.not_mem_nil,or_false] at hm
 rcases hm with rfl | rfl
 ·exact (show Tryz.prog.wantsStandIn 9=false by kernel_rfl)
 ·exact (show Tryz.prog.wantsStandIn 22=false by kernel_rfl)
theorem checkImports_holds:Rows.CheckImportsCardSaid:=
 Claim7.holds_tied_plain_at .later [] _ _ _ _ said (fun _ h=>by cases h) (by kernel_rfl) (fun _ h=>by cases h) checkImports_row_tie rfl ⟨rfl,rfl⟩ (by kernel_rfl) rfl plain (by kernel_rfl)
end Go.Proofs.YtilhhkokdfajiaaGreatDoor.CheckImportsP
