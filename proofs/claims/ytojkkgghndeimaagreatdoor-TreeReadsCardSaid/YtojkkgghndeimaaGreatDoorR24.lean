/- Some texts in one. -/
import Derived.Lib.ItoaLen
import Derived.Test.YtojkkgghndeimaaGreatDoorR5
import Derived.Test.YtojkkgghndeimaaGreatDoorR17
import Derived.Test.YtojkkgghndeimaaGreatDoorR18
import Derived.Test.YtojkkgghndeimaaGreatDoorR22
import Derived.Test.YtojkkgghndeimaaGreatDoorR23
namespace Go.Mq.Tree
open Go Go.RowKit Go.Mq
theorem NamesAt.spelt {w:World} {F:Nat→Prop} {l:List (List UInt8)} {v:Value} (h:NamesAt w F l v) : ∃ a c,v = .slice a l.length c∧NamesAt w F l (.slice a l.length c):=by
 obtain ⟨a,c,rfl,h1,h2⟩:=h; exact ⟨a,c,rfl,a,c,rfl,h1,h2⟩
theorem SlAt.spelt {w:World} {F:Nat→Prop} {s:S} {v:Value} (h:SlAt w F s v) : ∃ a c,v = .slice a s.len c∧SlAt w F s (.slice a s.len c):=by
 obtain ⟨a,c,cs,rfl,h1,h2,h3⟩:=h; exact ⟨a,c,rfl,a,c,cs,rfl,h1,h2,h3⟩
end Go.Mq.Tree
namespace Go.Mq.Ref
open Go Go.RowKit Go.Mq Go.Mq.Tree
def StarMap (w:World) (m:Nat):Prop:=∃ (c n:Nat),w.heap[m]?=some (.map #[{ key:=.bool true,val:=.string ⟨#[42]⟩,born:=n }] c)
theorem StarMap.kept {w w':World} {m:Nat} (h:StarMap w m) (hc:Chg [] w w'):StarMap w' m:=by
 obtain ⟨c,n,h⟩:=h
 exact ⟨c,n,by rw [hc.block m (Array.getElem?_eq_some_iff.1 h).1 (by simp)]; exact h⟩
section
variable {P:Program} {T K E:TypeId} {w:World}
theorem rgetm {r:Nat} {es:Array MapEntry} {clock:Nat} (hb : w.heap[r]?=some (.map es clock)) : (getObj r).run P w = .ok (.map es clock) w:=by simp [getObj,Sem.run,hb]
theorem rsetm {r:Nat} {es:Array MapEntry} {clock:Nat} (o:Obj) (hb : w.heap[r]?=some (.map es clock)) : (setObj r o).run P w = .ok () { w with heap:=w.heap.setIfInBounds r o }:=by simp [setObj,Sem.run,hb]
theorem run_ck (hK:P.underlying K=some .bool) (e b:Bool) : (Instr.checkKey e 10000 K (.bool b)).run P w = .ok () w:=by
 rw [show (10000:Nat)=9999 + 1 from rfl,Instr.checkKey]
 simp [run_underlying hK]
theorem star_put (hT:P.underlying T=some (.map K E)) (hK:P.underlying K=some .bool) {m:Nat} (hb : w.heap[m]?=some (.map #[] 0)) :
  ∃ w',(Instr.mapUpdate T (.map (some m)) (.bool true) (.string ⟨#[42]⟩)).run P w = .ok () w'∧StarMap w' m∧Chg [m] w w':=by
 have hm:=(Array.getElem?_eq_some_iff.1 hb).1
 refine ⟨{ w with heap:=w.heap.setIfInBounds m (.map #[{ key:=.bool true,val:=.string ⟨#[42]⟩,born:=0 }] 1) },?_,⟨1,0,by simp [hm]⟩,⟨rfl,rfl,rfl,by simp,fun k _ hk=>?_⟩⟩
 ·simp [Instr.mapUpdate,run_underlying hT,rgetm hb,run_ck hK,run_underlying hK,Instr.findKey,Instr.findNow,rsetm _ hb]
 ·show (w.heap.setIfInBounds m _)[k]?=_
  rw [Array.getElem?_setIfInBounds_ne (fun e=>hk (by simp [e]))]
theorem star_look (hT:P.underlying T=some (.map K E)) (hK:P.underlying K=some .bool) (hz : (zeroValue E).run P w = .ok (.string ⟨#[]⟩) w) {m:Nat} (h:StarMap w m) (b:Bool) :
  (Instr.lookup T (.map (some m)) (.bool b) false).run P w = .ok (.string (bs (star b))) w:=by
 obtain ⟨c,n,hb⟩:=h
 cases b <;> simp [Instr.lookup,run_underlying hT,rgetm hb,run_ck hK,run_underlying hK,Instr.findKey,Instr.findNow,Instr.sameNow,hz,star,Result.andThen,bs]
end
end Go.Mq.Ref
namespace Go.Proofs.YtojkkgghndeimaaGreatDoor
open Go Go.RowKit Go.Mq Go.Mq.Tree Go.Mq.Ref
set_option maxRecDepth 100000
set_option maxHeartbeats 8000000
theorem look_star {w:World} {m:Nat} (h:StarMap w m) (b:Bool) : (Instr.lookup 134 (.map (some m)) (.bool b) false).run Tryz.prog w = .ok (.string (bs (star b))) w:=
 star_look Tryz.underlying134 Tryz.underlying4 (by kernel_rfl) h b
theorem star_le (b:Bool) : (star b).length≤1:=by cases b <;> decide
theorem rbody {w:World} {B:Nat} {F:Nat→Prop} {s:S} {v:Value} (hL:RLaid w B) (hw:WFS 10 s) (h:SlAt w F s v) (hl : (stmtsT s [32,32]).length≤1099511627776) : ∀ w',Chg [] w w'→Said 70 #[v,num 1] w' (bs (stmtsT s [32,32])):=fun w' hc=>by
 have:=(rstmts_all s 10 hw).1 F v w' B 1 (hL.kept hc (by simp)) (h.kept hc (by simp)) (by omega) (by rw [tabs_one]; exact hl)
 rw [tabs_one] at this
 exact this
theorem rjoin {w:World} {F:Nat→Prop} {l:List (List UInt8)} {v:Value} (h:NamesAt w F l v) (hn : l.length≤10) (hl : (Lib.join l [44,32]).length≤1099511627776) : ∀ w',Chg [] w w'→Said 65 #[v,.string ⟨#[44,32]⟩] w' (bs (Lib.join l [44,32])):=fun w' hc=>
 join_any l [44,32] w' F v (h.kept hc (by simp)) hl (by omega)
theorem rprint_any (m:Mod) (hm:WFM m) (F:Nat→Prop) (v:Value) (w:World) (B:Nat) (hL:RLaid w B) (h:ModAt w F m v) (hlen : (modT m).length≤1099511627776):Said 17 #[v] w (bs (modT m)):=by
 rw [modT_eq] at hlen ⊢
 obtain ⟨nm,is,vs,ps,bdy⟩:=m
 obtain ⟨vi,vv,vp,vb,rfl,hni,hgv,hpv,hsb⟩:=h
 dsimp only at hni hgv hpv hsb hlen ⊢
 have HM:=Lib.hid hm
 have hnl : nm.length≤10:=hm.name.2.2
 have hni0:=hni; have hsb0:=hsb
 obtain ⟨ai,ci,hvi,hni1,hni2⟩:=hni
 obtain ⟨av,cv,hvv,hgv1,hgv2⟩:=hgv
 obtain ⟨ap,cp,pcs,hvp,hpv1,hpv2,hpv3⟩:=hpv
 obtain ⟨ab,cb,bcs,hvb,hsb1,hsb2,hsb3⟩:=hsb
 subst hvi hvv hvp hvb
 have hmm:=@run_makeMap Tryz.prog
 obtain ⟨wX,hwX⟩ : ∃ wX,w.alloc (.cells #[str nm,.slice ai is.length ci,.slice av vs.length cv,.slice ap ps.length cp,.slice ab bdy.len cb] 31)=wX:=⟨_,rfl⟩
 have hbX:=Blk.new w #[str nm,.slice ai is.length ci,.slice av vs.length cv,.slice ap ps.length cp,.slice ab bdy.len cb] 31
 rw [hwX] at hbX
 have hcX:Chg [] w wX:=by rw [← hwX]; exact (Chg.refl _ _).alloc _
 obtain ⟨wM,hwM⟩ : ∃ x,wX.alloc (.map #[] 0)=x:=⟨_,rfl⟩
 have hcM:Chg [] wX wM:=by rw [← hwM]; exact (Chg.refl _ _).alloc _
 obtain ⟨wS,hrun,hst,hcS⟩:=star_put (P:=Tryz.prog) (w:=wM) (m:=wX.heap.size) Tryz.underlying134 Tryz.underlying4 (by rw [← hwM]; exact heap_alloc_new _ _)
 have hsz:=hcX.size
 have hcXS:Chg [] wX wS:=hcM.trans hcS (fun x hx=>.inr (by simp at hx; omega))
 have hcw:Chg [] w wS:=hcX.then hcXS
 have HST:=Lib.hid hst
 have HX:=Lib.hid (hbX.kept hcXS (by simp))
 have HNI:=Lib.hid (hni0.kept hcw (by simp)); have HSB:=Lib.hid (hsb0.kept hcw (by simp))
 have HGV:=Lib.hid (hgv2.kept hcw (by simp)); have HPV:=Lib.hid (hpv2.kept hcw (by simp)); have HPS:=Lib.hid (hpv3.kept hcw (by simp))
 have HL:=Lib.hid (hL.kept hcw (by simp)); have HCW:=Lib.hid hcw
 have hvn : vs.length≤10:=hm.fewv
 have hpn : ps.length≤10:=hm.fewp
 have hin : is.length≤10:=by have:=hm.few; dsimp only at this; omega
 obtain ⟨T,hT⟩ : ∃ T:List UInt8,T=[109,111,100,117,108,101,32] ++ nm ++ [59,10] ++ ((if is=[] then [] else [105,109,112,111,114,116,32] ++ Lib.join is [44,32] ++ [59,10]) ++ tail0 vs ps bdy):=⟨_,rfl⟩
 rw [← hT] at hlen ⊢
 have HT:=Lib.hid hT
 have HTL:=Lib.hid hlen
 obtain ⟨nb,hnb⟩ : ∃ t:ByteArray,t=bs nm:=⟨_,rfl⟩
 have hnz : nb.size≤10:=by rw [hnb,bs_size]; exact hnl
 obtain ⟨e0,e1,e2,e3,e4⟩:=HX.out.five
 rw [str,← hnb] at e0
 have HNB:=Lib.hid hnb
 clear hL hni0 hsb0 hni1 hni2 hgv1 hgv2 hpv1 hpv2 hpv3 hsb1 hsb2 hsb3 hcX hbX hcM hcS hst hcXS hm hcw hT hlen hnb hsz
 go_enter Tryz.func17,Tryz.ntmps17
 go_upto_if 18 with fail
 clear hwX hwM hrun hmm
 go_cut [4] (fun s4 wx=>∃ l1:List UInt8,s4=str l1∧l1 ++ tail0 vs ps bdy=T∧Chg [] wS wx)
 case first=>
  by_cases his : is=[]
  ·have hil : ¬ 0 < is.length:=by rw [his]; simp
   have HR:=Lib.hid (show ([109,111,100,117,108,101,32] ++ nm ++ [59,10]) ++ tail0 vs ps bdy=T by rw [HT.out,if_pos his]; rfl)
   clear his
   go_wp2_with fail
   go_meet
   exact ⟨_,by rw [HNB.out]; show Value.string (bs [109,111,100,117,108,101,32] ++ bs nm ++ bs [59,10])=_; rw [← bs_append,← bs_append],HR.out,Chg.refl _ _⟩
  ·have hil : 0 < is.length:=List.length_pos_iff.2 his
   have hln:=congrArg List.length HT.out
   have hTL:=HTL.out
   simp only [if_neg his,List.length_append,List.length_cons,List.length_nil] at hln
   have HJ:=Lib.hid (rjoin HNI.out hin (by omega) wS (Chg.refl _ _))
   obtain ⟨jb,hjb⟩ : ∃ t:ByteArray,t=bs (Lib.join is [44,32]):=⟨_,rfl⟩
   have hjz : jb.size≤1099511627776:=by rw [hjb,bs_size]; omega
   rw [← hjb] at HJ
   have HJB:=Lib.hid hjb
   have HR:=Lib.hid (show ([109,111,100,117,108,101,32] ++ nm ++ [59,10] ++ ([105,109,112,111,114,116,32] ++ Lib.join is [44,32] ++ [59,10])) ++ tail0 vs ps bdy=T by rw [HT.out,if_neg his]; simp only [List.append_assoc])
   clear his hln hTL hjb
   go_wp2_with fail
   refine HJ.out.mono ?_; rintro _ w2 ⟨rfl,hc2⟩
   have HC2:=Lib.hid hc2; clear hc2
   go_wp2_with fail
   go_meet
   exact ⟨_,by rw [HNB.out,HJB.out]; show Value.string ((bs [109,111,100,117,108,101,32] ++ bs nm ++ bs [59,10]) ++ (bs [105,109,112,111,114,116,32] ++ bs (Lib.join is [44,32]) ++ bs [59,10]))=_; simp only [← bs_append,str],HR.out,HC2.out⟩
 case rest=>
  obtain ⟨l0,rfl,hl0,hcx⟩:=hcut
  have HL0:=Lib.hid hl0; have HCX:=Lib.hid hcx
  clear hl0 hcx e0 e1 e2 e3 e4
  obtain ⟨e0,e1,e2,e3,e4⟩:=(HX.out.kept HCX.out (by simp)).five
  go_wp2_with fail
  go_loopw [4,6,29] (fun o _ i wr=>∃ (k:Nat) (rest:List Glob) (l1:List UInt8) (cs1:List Value),o=str l1∧i=num k∧k + rest.length=vs.length∧vs.flatMap Glob.cells=cs1 ++ rest.flatMap Glob.cells∧cs1.length=k * 4∧Chg [] wS wr∧l1 ++ (rest.flatMap globT ++ tail1 ps bdy)=T ∧ ∀ g∈rest,WFG g) (fun _ _ i _=>vs.length - (intOf i).toNat)
  case atStart=>exact ⟨0,vs,l0,[],rfl,rfl,by simp,rfl,rfl,HCX.out,HL0.out,HM.out.vars⟩
  case round=>
   obtain ⟨k,rest,l1,cs1,rfl,rfl,hk,hcse,hl1,hwr,htx,hal⟩:=hrel
   have hln:=congrArg List.length htx
   have hTL:=HTL.out
   have HWR:=Lib.hid hwr; have HTX:=Lib.hid htx
   obtain ⟨ob,hob⟩ : ∃ t:ByteArray,t=bs l1:=⟨_,rfl⟩
   have hoz : ob.size≤1099511627776:=by rw [hob,bs_size]; simp only [List.length_append] at hln; omega
   have HOB:=Lib.hid hob
   cases rest with
   | nil=>
    have hke : ¬ k < vs.length:=by simp at hk; omega
    clear hln hTL hcse hwr htx hal hob e0 e1 e2 e3 e4
    obtain ⟨e0,e1,e2,e3,e4⟩:=(HX.out.kept HWR.out (by simp)).five
    go_wp2_with fail
    obtain ⟨wL,hwL⟩ : ∃ x,x=wr:=⟨_,rfl⟩
    subst hwL
    go_loopw [4,8,60] (fun o _ i wr=>∃ (k:Nat) (rest:List Proc) (l1:List UInt8) (cs1 cs2:List Value),o=str l1∧i=num k∧k + rest.length=ps.length∧pcs=cs1 ++ cs2∧cs1.length=k * 6∧PrsAt wS F rest cs2∧Chg [] wS wr∧l1 ++ (rest.flatMap procT ++ tail2 bdy)=T ∧ ∀ x∈rest,WFP x) (fun _ _ i _=>ps.length - (intOf i).toNat)
    case atStart=>exact ⟨0,ps,l1,[],pcs,rfl,rfl,by simp,rfl,rfl,HPS.out,HWR.out,by simpa [tail1] using HTX.out,HM.out.procs⟩
    case round=>
     clear HWR HTX HOB hoz e0 e1 e2 e3 e4 hk hke hl1
     obtain ⟨k,rest,l1,cs1,cs2,rfl,rfl,hk,hcse,hl1,hat,hwr,htx,hal⟩:=hrel
     have hln:=congrArg List.length htx
     have hTL:=HTL.out
     have HWR:=Lib.hid hwr; have HTX:=Lib.hid htx
     obtain ⟨ob,hob⟩ : ∃ t:ByteArray,t=bs l1:=⟨_,rfl⟩
     have hoz : ob.size≤1099511627776:=by rw [hob,bs_size]; simp only [List.length_append] at hln; omega
     have HOB:=Lib.hid hob
     rw [show str l1 = .string ob by rw [hob]]
     cases rest with
     | nil=>
      have hke : ¬ k < ps.length:=by simp at hk; omega
      simp only [List.flatMap_nil,List.nil_append,tail2,List.length_append,List.length_cons,List.length_nil] at hln
      have hbd:WFS 10 bdy:=HM.out.body
      have HSD:=Lib.hid (rbody HL.out hbd HSB.out (by omega) wr HWR.out)
      obtain ⟨tb,htb⟩ : ∃ t:ByteArray,t=bs (stmtsT bdy [32,32]):=⟨_,rfl⟩
      have htz : tb.size≤1099511627776:=by rw [htb,bs_size]; omega
      rw [← htb] at HSD
      have HTB:=Lib.hid htb
      clear hln hTL hcse hwr htx hal hob hat htb
      obtain ⟨e0,e1,e2,e3,e4⟩:=(HX.out.kept HWR.out (by simp)).five
      go_wp2_with fail
      refine HSD.out.mono ?_; rintro _ w2 ⟨rfl,hc2⟩
      have HC2:=Lib.hid (HCW.out.then (HWR.out.then hc2)); clear hc2
      go_wp2_with fail
      go_ret
      refine ⟨?_,HC2.out⟩
      have e:=HTX.out
      simp only [List.flatMap_nil,List.nil_append,tail2] at e
      rw [← e,HOB.out,HTB.out]
      show Ending.returned (Value.string (bs l1 ++ bs [98,101,103,105,110,10] ++ bs (stmtsT bdy [32,32]) ++ bs [101,110,100,46,10]))=_
      simp only [← bs_append,List.append_assoc]
     | cons x rest=>
      obtain ⟨xn,xp,xs,xa,xv,xb⟩:=x
      have hx:=hal _ (List.mem_cons_self ..)
      have hxl:=hx.name.2.2; have hxf:=hx.few; have hxr:=hx.room; have hxb:=hx.body
      dsimp only at hxl hxf hxr hxb
      have HAL:=Lib.hid (show ∀ x∈rest,WFP x from fun x h=>hal x (List.mem_cons_of_mem _ h))
      have hke : k < ps.length:=by simp at hk; omega
      obtain ⟨c1,c2,rfl,⟨vp,vv,vb,rfl,hnp,hnv,hsb⟩,hpr⟩:=hat
      dsimp only at hnp hnv hsb hcse
      simp only [List.cons_append,List.nil_append] at hcse
      have hrw:=HPV.out.kept HWR.out (by simp)
      rw [hcse] at hrw
      obtain ⟨ap',cp',rfl,hpp⟩:=hnp.spelt; obtain ⟨av',cv',rfl,hpv⟩:=hnv.spelt; obtain ⟨ab',cb',rfl,hpb⟩:=hsb.spelt
      obtain ⟨bb,off,rfl,d0,d1,d2,d3,d4,d5⟩:=cells6 hrw hl1
      have HCSE:=Lib.hid hcse; have HK:=Lib.hid hk; have HL1:=Lib.hid hl1; have HPR:=Lib.hid hpr
      simp only [List.flatMap_cons,procT,List.length_append,List.length_cons,List.length_nil] at hln
      have hln2 : (if xv=[] then [] else [118,97,114,32] ++ Lib.join xv [44,32] ++ [59,10]).length=if xv=[] then 0 else 4 + (Lib.join xv [44,32]).length + 2:=by split <;> simp; omega
      rw [hln2] at hln
      obtain ⟨gb,hgb⟩ : ∃ t:ByteArray,t=bs xn:=⟨_,rfl⟩
      have hgz : gb.size≤10:=by rw [hgb,bs_size]; exact hxl
      rw [str,← hgb] at d0
      obtain ⟨sb,hsb2⟩ : ∃ t:ByteArray,t=bs (star xs):=⟨_,rfl⟩
      have hsz : sb.size≤1:=by rw [hsb2,bs_size]; exact star_le xs
      have HGB:=Lib.hid hgb; have HSTB:=Lib.hid hsb2
      have HJP:=Lib.hid (rjoin hpp (by omega) (by omega))
      have HJV:=Lib.hid (show xv≠[] → ∀ w',Chg [] wS w'→Said 65 #[.slice av' xv.length cv',.string ⟨#[44,32]⟩] w' (bs (Lib.join xv [44,32])) from fun h=>rjoin hpv (by omega) (by rw [if_neg h] at hln; omega))
      have HBY:=Lib.hid (rbody HL.out hxb hpb (by omega))
      obtain ⟨jp,hjp⟩ : ∃ t:ByteArray,t=bs (Lib.join xa [44,32]):=⟨_,rfl⟩
      have hjz : jp.size≤1099511627776:=by rw [hjp,bs_size]; omega
      rw [← hjp] at HJP
      obtain ⟨jv,hjv⟩ : ∃ t:ByteArray,t=bs (Lib.join xv [44,32]):=⟨_,rfl⟩
      have hjvz : jv.size≤1099511627776:=by
       rw [hjv,bs_size]
       by_cases h : xv=[]
       ·rw [h,Lib.join_nil]; simp
       ·rw [if_neg h] at hln; omega
      rw [← hjv] at HJV
      obtain ⟨tb,htb⟩ : ∃ t:ByteArray,t=bs (stmtsT xb [32,32]):=⟨_,rfl⟩
      have htz : tb.size≤1099511627776:=by rw [htb,bs_size]; omega
      rw [← htb] at HBY
      have HJPE:=Lib.hid hjp; have HJVE:=Lib.hid hjv; have HTB:=Lib.hid htb
      clear hrw hcse hk hl1 hx hal hwr htx hln hln2 hTL hob hgb hsb2 hjp hjv htb hnp hnv hsb hpp hpv hpb hpr hxl hxf hxr hxb
      go_upto_region 15 with fail
      go_cut [8] (fun s8 wx=>∃ bg:Nat,s8=ptr bg∧Blk wx bg #[.string gb,num xp,.bool xs,.slice ap' xa.length cp',.slice av' xv.length cv',.slice ab' xb.len cb'] 87∧Chg [] wS wx)
      case first=>
       have hz:=Blk.new wr #[str [],num 0,.bool false,nils,nils,nils] 87
       obtain ⟨wA,hwA⟩ : ∃ wA,wr.alloc (.cells #[str [],num 0,.bool false,nils,nils,nils] 87)=wA:=⟨_,rfl⟩
       rw [hwA] at hz
       have hcA:Chg [] wr wA:=by rw [← hwA]; exact (Chg.refl _ _).alloc _
       obtain ⟨wF,hwF,hcF,hbF⟩:=set6P (.string gb) (num xp) (.bool xs) (.slice ap' xa.length cp') (.slice av' xv.length cv') (.slice ab' xb.len cb') hz
       have HCW2:=Lib.hid (HWR.out.then (hcA.trans hcF (fun x hx=>.inr (by simp at hx; omega))))
       have g0:=hcA.cellSome d0 (by simp); have g1:=hcA.cellSome d1 (by simp); have g2:=hcA.cellSome d2 (by simp); have g3:=hcA.cellSome d3 (by simp); have g4:=hcA.cellSome d4 (by simp); have g5:=hcA.cellSome d5 (by simp)
       have z0:=hz.cell 0 _ rfl; have z1:=hz.cell 1 _ rfl; have z2:=hz.cell 2 _ rfl; have z3:=hz.cell 3 _ rfl; have z4:=hz.cell 4 _ rfl; have z5:=hz.cell 5 _ rfl
       have y0:=hz.frozen 0; have y1:=hz.frozen 1; have y2:=hz.frozen 2; have y3:=hz.frozen 3; have y4:=hz.frozen 4; have y5:=hz.frozen 5
       have HB0:=Lib.hid hbF
       clear hcA hcF hbF hz
       go_wp2_with fail
       go_meet
       exact ⟨_,rfl,HB0.out,HCW2.out⟩
      case rest=>
       obtain ⟨bg,rfl,hbg,hcx⟩:=hcut
       clear d0 d1 d2 d3 d4 d5
       have HBG:=Lib.hid hbg
       have HLT:=Lib.hid (show bg < wc.drew.heap.size from lt_of_cell (hbg.cell 0 _ rfl))
       have HCX2:=Lib.hid (hcx.then (Chg.refl [] wc).drew); have HCX3:=Lib.hid hcx
       clear hbg hcx
       obtain ⟨lA,hlA⟩ : ∃ x,x=l1 ++ ([112,114,111,99,32] ++ xn ++ star xs ++ [40] ++ Lib.join xa [44,32] ++ [41,59,10]):=⟨_,rfl⟩
       have hAT : lA ++ ((if xv=[] then [] else [118,97,114,32] ++ Lib.join xv [44,32] ++ [59,10]) ++ [98,101,103,105,110,10] ++ stmtsT xb [32,32] ++ [101,110,100,59,10] ++ (rest.flatMap procT ++ tail2 bdy))=T:=by rw [hlA,← HTX.out]; simp [procT]
       have HLA:=Lib.hid hlA; have HAT:=Lib.hid hAT
       obtain ⟨oA,hoA⟩ : ∃ t:ByteArray,t=bs lA:=⟨_,rfl⟩
       have hoAz : oA.size≤1099511627776:=by rw [hoA,bs_size]; have h1:=congrArg List.length hAT; have:=HTL.out; simp only [List.length_append] at h1; omega
       have HOA:=Lib.hid hoA
       clear hlA hAT hoA
       go_upto_region 16 with fail
       go_cut [4] (fun s4 wx=>s4 = .string oA∧Chg [] wc wx)
       case first=>
        refine wp_region_E isEffK [] rfl (by kernel_rfl) ?_
        obtain ⟨wD,hwD⟩ : ∃ x,x=wc.drew:=⟨_,rfl⟩
        have hS:Chg [] wc.drew wc.drew:=Chg.refl _ _
        have HBD:=Lib.hid (HBG.out.kept (Chg.refl [] wc).drew (by simp))
        have HDW:=Lib.hid (Chg.refl [] wc).drew
        rw [← hwD] at HBD HCX2 HLT HDW hS ⊢
        clear hwD
        have f0:=HBD.out.cell 0 _ rfl; have f1:=HBD.out.cell 1 _ rfl; have f2:=HBD.out.cell 2 _ rfl; have f3:=HBD.out.cell 3 _ rfl; have f4:=HBD.out.cell 4 _ rfl; have f5:=HBD.out.cell 5 _ rfl
        have HLKS:=Lib.hid (show ∀ w',Chg [] wD w'→(Instr.lookup 134 (.map (some wX.heap.size)) (.bool xs) false).run Tryz.prog w' = .ok (.string sb) w' from fun w' hc=>by rw [HSTB.out]; exact look_star (HST.out.kept (HCX2.out.then hc)) xs)
        have hlk:=HLKS.out wD hS
        repeat ((with_reducible refine gX ?_); (first | refine wpX_nil ?_ | refine sK ?_ | refine sM fun _ _=>?_ | refine sL fun _ _=>?_ | refine sE fun _ _=>?_); go_wp2_with fail)
        refine sLk (fun _ _=>?_) HLKS.out hS
        go_wp2_with fail
        repeat ((with_reducible refine gX ?_); (first | refine wpX_nil ?_ | refine sK ?_ | refine sM fun _ _=>?_ | refine sL fun _ _=>?_ | refine sE fun _ _=>?_); go_wp2_with fail)
        refine (HJP.out _ HCX2.out).mono ?_; rintro _ w2 ⟨rfl,hc2⟩
        have hS2:=Chg.then hS hc2; have hk2:=Chg.cells hS2 HLT.out (by simp)
        have HC2:=Lib.hid (HDW.out.then hc2)
        clear hc2
        go_wp2_with fail
        refine And.intro (by assumption:Chg _ _ _) ?_
        repeat ((with_reducible refine gX ?_); (first | refine wpX_nil ?_ | refine sK ?_ | refine sM fun _ _=>?_ | refine sL fun _ _=>?_ | refine sE fun _ _=>?_); go_wp2_with fail)
        go_meet
        refine ⟨?_,HC2.out⟩
        rw [HOB.out,HGB.out,HSTB.out,HJPE.out,HOA.out,HLA.out]
        show Value.string (bs l1 ++ (bs [112,114,111,99,32] ++ bs xn ++ bs (star xs) ++ bs [40] ++ bs (Lib.join xa [44,32]) ++ bs [41,59,10]))=_
        simp only [← bs_append]
       case rest=>
       obtain ⟨rfl,hcw⟩:=hcut
       obtain ⟨w2,hw2⟩ : ∃ x,x=wc:=⟨_,rfl⟩
       subst hw2
       have HC2:=Lib.hid (HCX3.out.then hcw)
       have HB2:=Lib.hid (HBG.out.kept hcw (by simp))
       clear hcw
       have f4:=HB2.out.cell 4 _ rfl; have f5:=HB2.out.cell 5 _ rfl
       go_upto_if 83 with fail
       go_cut [4] (fun s4 wx=>∃ l2:List UInt8,s4=str l2∧l2=lA ++ (if xv=[] then [] else [118,97,114,32] ++ Lib.join xv [44,32] ++ [59,10])∧Chg [] w2 wx)
       case first=>
        by_cases hxv : xv=[]
        ·have hil : ¬ 0 < xv.length:=by rw [hxv]; simp
         have HXV:=Lib.hid hxv; clear hxv
         go_wp2_with fail
         go_meet
         refine ⟨_,?_,rfl,Chg.refl _ _⟩
         rw [HOA.out,if_pos HXV.out,List.append_nil]
        ·have hil : 0 < xv.length:=List.length_pos_iff.2 hxv
         have HXV:=Lib.hid hxv; clear hxv
         have HJW:=Lib.hid (HJV.out HXV.out w2 HC2.out)
         go_wp2_with fail
         refine HJW.out.mono ?_; rintro _ w3 ⟨rfl,hc3⟩
         have HC3:=Lib.hid hc3; clear hc3
         go_wp2_with fail
         go_meet
         refine ⟨_,?_,rfl,HC3.out⟩
         rw [HOA.out,HJVE.out,if_neg HXV.out]
         show Value.string (bs lA ++ (bs [118,97,114,32] ++ bs (Lib.join xv [44,32]) ++ bs [59,10]))=_
         simp only [← bs_append,str]
       case rest=>
        obtain ⟨l2,rfl,hl2,hc3⟩:=hcut
        have HL2:=Lib.hid hl2
        obtain ⟨ob2,hob2⟩ : ∃ t:ByteArray,t=bs l2:=⟨_,rfl⟩
        have htl2 : l2 ++ ([98,101,103,105,110,10] ++ stmtsT xb [32,32] ++ [101,110,100,59,10] ++ (rest.flatMap procT ++ tail2 bdy))=T:=by rw [hl2,← HAT.out]; simp only [List.append_assoc]
        have hoz2 : ob2.size≤1099511627776:=by rw [hob2,bs_size]; have h1:=congrArg List.length htl2; have:=HTL.out; simp only [List.length_append] at h1; omega
        rw [show str l2 = .string ob2 by rw [hob2]]
        have HOB2:=Lib.hid hob2; have HTX2:=Lib.hid htl2
        have HC3:=Lib.hid (HC2.out.then hc3)
        clear f4 f5
        have f5:=(HB2.out.kept hc3 (by simp)).cell 5 _ rfl
        clear hl2 hob2 htl2 hc3
        go_wp2_with fail
        refine (HBY.out _ HC3.out).mono ?_; rintro _ w4 ⟨rfl,hc4⟩
        have HC4:=Lib.hid (HC3.out.then hc4); clear hc4
        go_wp2_with fail
        go_roundw
        case rel=>
         refine ⟨k + 1,rest,l2 ++ ([98,101,103,105,110,10] ++ stmtsT xb [32,32] ++ [101,110,100,59,10]),cs1 ++ [str xn,num xp,.bool xs,.slice ap' xa.length cp',.slice av' xv.length cv',.slice ab' xb.len cb'],_,?_,by go_num,by have:=HK.out; simp at this; omega,by rw [HCSE.out]; simp,by simp [HL1.out]; omega,HPR.out,HC4.out,?_,HAL.out⟩
         ·rw [HOB2.out,HTB.out]
          show Value.string (bs l2 ++ (bs [98,101,103,105,110,10] ++ bs (stmtsT xb [32,32]) ++ bs [101,110,100,59,10]))=_
          simp only [← bs_append,str]
         ·rw [← HTX2.out]
          simp
        case measure=>simp [intOf]; omega
   | cons g rest=>
    obtain ⟨gn,gp,gl,gs⟩:=g
    have hg:=hal _ (List.mem_cons_self ..)
    have hgl:=hg.name.2.2; have hg0:=hg.low; have hg30:=hg.high
    dsimp only at hgl hg0 hg30
    have HAL:=Lib.hid (show ∀ g∈rest,WFG g from fun g h=>hal g (List.mem_cons_of_mem _ h))
    have hke : k < vs.length:=by simp at hk; omega
    simp only [List.flatMap_cons,Glob.cells,List.cons_append,List.nil_append] at hcse
    have hrw:=HGV.out.kept HWR.out (by simp)
    rw [hcse] at hrw
    obtain ⟨bb,off,rfl,d0,d1,d2,d3⟩:=cells4 hrw hl1
    have HCSE:=Lib.hid hcse; have HK:=Lib.hid hk; have HL1:=Lib.hid hl1
    obtain ⟨gb,hgb⟩ : ∃ t:ByteArray,t=bs gn:=⟨_,rfl⟩
    have hgz : gb.size≤10:=by rw [hgb,bs_size]; exact hgl
    rw [str,← hgb] at d0
    obtain ⟨sb,hsb⟩ : ∃ t:ByteArray,t=bs (star gs):=⟨_,rfl⟩
    have hsz : sb.size≤1:=by rw [hsb,bs_size]; exact star_le gs
    have HGB:=Lib.hid hgb; have HSTB:=Lib.hid hsb
    rw [show str l1 = .string ob by rw [hob]]
    clear hrw hcse hk hl1 hg hal hwr htx hln hTL hob hgb hsb e0 e1 e2 e3 e4
    go_upto_region 7 with fail
    go_cut [6] (fun s6 wx=>∃ bg:Nat,s6=ptr bg∧Blk wx bg #[.string gb,num gp,num gl,.bool gs] 84∧Chg [] wS wx)
    case first=>
     have hz:=Blk.new wr #[str [],num 0,num 0,.bool false] 84
     obtain ⟨wA,hwA⟩ : ∃ wA,wr.alloc (.cells #[str [],num 0,num 0,.bool false] 84)=wA:=⟨_,rfl⟩
     rw [hwA] at hz
     have hcA:Chg [] wr wA:=by rw [← hwA]; exact (Chg.refl _ _).alloc _
     obtain ⟨wF,hwF,hcF,hbF⟩:=set4 (.string gb) (num gp) (num gl) (.bool gs) hz
     have HCW2:=Lib.hid (HWR.out.then (hcA.trans hcF (fun x hx=>.inr (by simp at hx; omega))))
     have g0:=hcA.cellSome d0 (by simp); have g1:=hcA.cellSome d1 (by simp); have g2:=hcA.cellSome d2 (by simp); have g3:=hcA.cellSome d3 (by simp)
     have z0:=hz.cell 0 _ rfl; have z1:=hz.cell 1 _ rfl; have z2:=hz.cell 2 _ rfl; have z3:=hz.cell 3 _ rfl
     have y0:=hz.frozen 0; have y1:=hz.frozen 1; have y2:=hz.frozen 2; have y3:=hz.frozen 3
     have HB0:=Lib.hid hbF
     clear hcA hcF hbF hz
     go_wp2_with fail
     go_meet
     exact ⟨_,rfl,HB0.out,HCW2.out⟩
    case rest=>
     obtain ⟨bg,rfl,hbg,hcx⟩:=hcut
     clear d0 d1 d2 d3
     have f0:=hbg.cell 0 _ rfl; have f1:=hbg.cell 1 _ rfl; have f2:=hbg.cell 2 _ rfl; have f3:=hbg.cell 3 _ rfl
     have HCX2:=Lib.hid hcx
     have hlk:=look_star (HST.out.kept hcx) gs
     rw [← HSTB.out] at hlk
     have HLK:=Lib.hid hlk
     have HTY:=Lib.hid (itoa_any gl hg0 (by omega) wc B (HL.out.kept hcx (by simp)).laid)
     have hil : (Lib.itoa gl).length≤100:=Nat.le_trans (Lib.itoa_length_le gl (by omega) (by omega)) (by decide)
     obtain ⟨ib,hib⟩ : ∃ t:ByteArray,t=bs (Lib.itoa gl):=⟨_,rfl⟩
     have hiz : ib.size≤100:=by rw [hib,bs_size]; exact hil
     rw [str,← hib] at HTY
     have HIB:=Lib.hid hib
     clear hbg hcx hib hil
     cases hgt : decide ((0:Int) < gl) with
     | true=>
      go_wp2_with fail
      refine HTY.out.mono ?_; rintro _ w2 ⟨rfl,hc2⟩
      have HC2:=Lib.hid (HCX2.out.then hc2)
      have HGT:=Lib.hid (of_decide_eq_true hgt)
      clear hc2
      go_wp2_with fail
      go_roundw
      case rel=>
       refine ⟨k + 1,rest,l1 ++ ([118,97,114,32] ++ gn ++ star gs ++ [58,32] ++ ([97,114,114,97,121,32] ++ Lib.itoa gl ++ [59,10])),cs1 ++ [str gn,num gp,num gl,.bool gs],?_,by go_num,by have:=HK.out; simp at this; omega,by rw [HCSE.out]; simp,by simp [HL1.out]; omega,HC2.out,?_,HAL.out⟩
       ·rw [HOB.out,HGB.out,HSTB.out,HIB.out]
        show Value.string (bs l1 ++ (bs [118,97,114,32] ++ bs gn ++ bs (star gs) ++ bs [58,32]) ++ (bs [97,114,114,97,121,32] ++ bs (Lib.itoa gl) ++ bs [59,10]))=_
        simp only [← bs_append,str,List.append_assoc]
       ·rw [← HTX.out]
        simp [globT,HGT.out]
      case measure=>simp [intOf]; omega
     | false=>
      have HGT:=Lib.hid (of_decide_eq_false hgt)
      go_wp2_with fail
      go_roundw
      case rel=>
       refine ⟨k + 1,rest,l1 ++ ([118,97,114,32] ++ gn ++ star gs ++ [58,32] ++ [105,110,116,59,10]),cs1 ++ [str gn,num gp,num gl,.bool gs],?_,by go_num,by have:=HK.out; simp at this; omega,by rw [HCSE.out]; simp,by simp [HL1.out]; omega,HCX2.out,?_,HAL.out⟩
       ·rw [HOB.out,HGB.out,HSTB.out]
        show Value.string (bs l1 ++ (bs [118,97,114,32] ++ bs gn ++ bs (star gs) ++ bs [58,32]) ++ bs [105,110,116,59,10])=_
        simp only [← bs_append,str,List.append_assoc]
       ·rw [← HTX.out]
        simp [globT,HGT.out]
      case measure=>simp [intOf]; omega
end Go.Proofs.YtojkkgghndeimaaGreatDoor
namespace Go.Proofs.YtojkkgghndeimaaGreatDoor
open Go Go.RowKit Go.Mq Go.Mq.Tree Go.Mq.Ref
set_option maxRecDepth 100000
set_option maxHeartbeats 8000000
def ExS (w:World) (v v':Value):Prop:=∀ w',Chg [] w w'→Calls Tryz.prog 18 #[v,v'] w' (Yes w')
theorem ExS.mono {w w1:World} {u u':Value} (h:ExS w u u') (hc:Chg [] w w1):ExS w1 u u':=fun w' h'=>h w' (hc.then h')
def TextEq (w:World) (u u':Value):Prop:=∃ t:List UInt8,∀ w',Chg [] w w'→Said 71 #[u] w' (bs t)∧Said 72 #[u'] w' (bs t)
theorem TextEq.mono {w w1:World} {u u':Value} (h:TextEq w u u') (hc:Chg [] w w1):TextEq w1 u u':=by
 obtain ⟨t,h⟩:=h; exact ⟨t,fun w' h'=>h w' (hc.then h')⟩
def ExAt (w:World) (cs cs':List Value) (i:Nat):Prop:=∃ (y y':Nat) (a1 a2 a1' a2':Option Addr) (l1 c1 l2 c2 l1' c1' l2' c2':Nat),
 (cs[i * 7 + 4]?=some (ptr y)∧cs[i * 7 + 5]?=some (.slice a1 l1 c1)∧cs[i * 7 + 6]?=some (.slice a2 l2 c2)) ∧
 (cs'[i * 7 + 4]?=some (ptr y')∧cs'[i * 7 + 5]?=some (.slice a1' l1' c1')∧cs'[i * 7 + 6]?=some (.slice a2' l2' c2')) ∧
 TextEq w (ptr y) (ptr y')∧ExS w (.slice a1 l1 c1) (.slice a1' l1' c1')∧ExS w (.slice a2 l2 c2) (.slice a2' l2' c2')
theorem exRows {w:World} {F G:Nat→Prop} {a a':Option Addr} {n c c':Nat} {cs cs':List Value} (hn : n≤1000000) (hc : n≤c) (hc' : n≤c') (h:Row w F a cs) (h':Row w G a' cs') (hi : ∀ i,i < n→ExAt w cs cs' i):ExS w (.slice a n c) (.slice a' n c'):=by
 intro w' hw
 have H:=Lib.hid (h.kept hw (by simp)); have H':=Lib.hid (h'.kept hw (by simp)); have HI:=Lib.hid hi; have HW:=Lib.hid hw
 clear h h' hi hw
 go_enter Tryz.func18,Tryz.ntmps18
 go_wp2_with fail
 go_loopw [5] (fun i wr=>∃ k:Nat,k≤n∧i = .int .i64 k∧Chg [] w' wr) (fun i _=>n - (intOf i).toNat)
 case atStart=>exact ⟨0,Nat.zero_le _,rfl,Chg.refl _ _⟩
 case round=>
  obtain ⟨i,hk,rfl,hcr⟩:=hrel
  by_cases hlt : i < n
  ·obtain ⟨y,y',a1,a2,a1',a2',l1,c1,l2,c2,l1',c1',l2',c2',⟨q4,q5,q6⟩,⟨q4',q5',q6'⟩,⟨t,hT⟩,s1,s2⟩:=HI.out i hlt
   obtain ⟨b,o,rfl,hcell⟩:=H.out.at_ (by have:=(List.getElem?_eq_some_iff.1 q4).1; omega)
   obtain ⟨b',o',rfl,hcell'⟩:=H'.out.at_ (by have:=(List.getElem?_eq_some_iff.1 q4').1; omega)
   have hcD:Chg [] w' wr.drew:=hcr.then (Chg.refl [] wr).drew
   have e4:=hcD.cellSome (hcell _ _ q4) (by simp); have e5:=hcD.cellSome (hcell _ _ q5) (by simp); have e6:=hcD.cellSome (hcell _ _ q6) (by simp)
   have d4:=hcD.cellSome (hcell' _ _ q4') (by simp); have d5:=hcD.cellSome (hcell' _ _ q5') (by simp); have d6:=hcD.cellSome (hcell' _ _ q6') (by simp)
   simp only [← Nat.add_assoc] at e4 e5 e6 d4 d5 d6
   have HCD:=Lib.hid hcD
   have S1:=Lib.hid (s1.mono HW.out); have S2:=Lib.hid (s2.mono HW.out)
   have HT:=Lib.hid (show ∀ w2,Chg [] w' w2→Said 71 #[ptr y] w2 (bs t)∧Said 72 #[ptr y'] w2 (bs t) from fun w2 h2=>hT w2 (HW.out.then h2))
   have HB:=Lib.hid (show b < wr.drew.heap.size from lt_of_cell e4)
   have HB':=Lib.hid (show b' < wr.drew.heap.size from lt_of_cell d4)
   clear hcell hcell' q4 q5 q6 q4' q5' q6' hT s1 s2 hcr hcD
   go_wp2_with fail
   refine wp_region_C [] rfl (by kernel_rfl) ?_
   obtain ⟨wD,hwD⟩ : ∃ x,x=wr.drew:=⟨_,rfl⟩
   rw [← hwD] at e4 e5 e6 d4 d5 d6 HCD HB HB' ⊢
   clear hwD
   have hS:Chg [] wD wD:=Chg.refl _ _
   repeat ((with_reducible refine gX ?_); (first | refine wpX_nil ?_ | refine sK ?_ | refine sM fun _ _=>?_ | refine sL fun _ _=>?_ | refine sE fun _ _=>?_); go_wp2_with fail)
   refine ((HT.out _ HCD.out).1).mono ?_; rintro _ w1 ⟨rfl,hc1⟩
   have hS1:=Chg.then hS hc1; have hk1:=Chg.cells hS1 HB.out (by simp); have hk1':=Chg.cells hS1 HB'.out (by simp)
   have HC1:=Lib.hid (HCD.out.then hS1)
   clear hc1
   go_wp2_with fail
   refine And.intro (by assumption:Chg _ _ _) ?_
   repeat ((with_reducible refine gX ?_); (first | refine wpX_nil ?_ | refine sK ?_ | refine sM fun _ _=>?_ | refine sL fun _ _=>?_ | refine sE fun _ _=>?_); go_wp2_with fail)
   refine ((HT.out _ HC1.out).2).mono ?_; rintro _ w2 ⟨rfl,hc2⟩
   have hS2:=Chg.then hS1 hc2; have hk2:=Chg.cells hS2 HB.out (by simp); have hk2':=Chg.cells hS2 HB'.out (by simp)
   have HC2:=Lib.hid (HCD.out.then hS2)
   clear hc2 hk1 hk1'
   go_wp2_with fail
   refine And.intro (by assumption:Chg _ _ _) ?_
   repeat ((with_reducible refine gX ?_); (first | refine wpX_nil ?_ | refine sK ?_ | refine sM fun _ _=>?_ | refine sL fun _ _=>?_ | refine sE fun _ _=>?_); go_wp2_with fail)
   refine (S1.out _ HC2.out).mono ?_; rintro _ w3 ⟨rfl,hc3⟩
   have hS3:=Chg.then hS2 hc3; have hk3:=Chg.cells hS3 HB.out (by simp); have hk3':=Chg.cells hS3 HB'.out (by simp)
   have HC3:=Lib.hid (HCD.out.then hS3)
   clear hc3 hk2 hk2'
   go_wp2_with fail
   refine And.intro (by assumption:Chg _ _ _) ?_
   repeat ((with_reducible refine gX ?_); (first | refine wpX_nil ?_ | refine sK ?_ | refine sM fun _ _=>?_ | refine sL fun _ _=>?_ | refine sE fun _ _=>?_); go_wp2_with fail)
   refine (S2.out _ HC3.out).mono ?_; rintro _ w4 ⟨rfl,hc4⟩
   have hS4:=Chg.then hS3 hc4
   have HC4:=Lib.hid (HCD.out.then hS4)
   clear hc4 hk3 hk3'
   go_wp2_with fail
   refine And.intro (by assumption:Chg _ _ _) ?_
   repeat ((with_reducible refine gX ?_); (first | refine wpX_nil ?_ | refine sK ?_ | refine sM fun _ _=>?_ | refine sL fun _ _=>?_ | refine sE fun _ _=>?_); go_wp2_with fail)
   go_roundw
   case rel=>exact ⟨i + 1,by omega,by go_num,HC4.out⟩
   case measure=>simp [intOf]; omega
  ·have HC:=Lib.hid hcr; clear hcr
   go_wp2_with fail
   go_ret
   exact ⟨rfl,HC.out⟩
theorem ExAt.succ {w:World} {cs cs':List Value} {i:Nat} {x0 x1 x2 x3 x4 x5 x6 d0 d1 d2 d3 d4 d5 d6:Value} (h:ExAt w cs cs' i):ExAt w (x0 :: x1 :: x2 :: x3 :: x4 :: x5 :: x6 :: cs) (d0 :: d1 :: d2 :: d3 :: d4 :: d5 :: d6 :: cs') (i + 1):=by
 obtain ⟨y,y',a1,a2,a1',a2',l1,k1,l2,k2,l1',k1',l2',k2',q,q',t,s1,s2⟩:=h
 refine ⟨y,y',a1,a2,a1',a2',l1,k1,l2,k2,l1',k1',l2',k2',?_,?_,t,s1,s2⟩
 ·rw [show (i + 1) * 7 + 4=(i * 7 + 4) + 7 by omega,show (i + 1) * 7 + 5=(i * 7 + 5) + 7 by omega,show (i + 1) * 7 + 6=(i * 7 + 6) + 7 by omega]; exact q
 ·rw [show (i + 1) * 7 + 4=(i * 7 + 4) + 7 by omega,show (i + 1) * 7 + 5=(i * 7 + 5) + 7 by omega,show (i + 1) * 7 + 6=(i * 7 + 6) + 7 by omega]; exact q'
theorem ExAt.zero {w:World} {cs cs':List Value} {x0 x1 x2 x3 d0 d1 d2 d3:Value} {y y':Nat} {a1 a2 a1' a2':Option Addr} {l1 k1 l2 k2 l1' k1' l2' k2':Nat} (t:TextEq w (ptr y) (ptr y')) (s1:ExS w (.slice a1 l1 k1) (.slice a1' l1' k1')) (s2:ExS w (.slice a2 l2 k2) (.slice a2' l2' k2')) :
  ExAt w (x0 :: x1 :: x2 :: x3 :: ptr y :: .slice a1 l1 k1 :: .slice a2 l2 k2 :: cs) (d0 :: d1 :: d2 :: d3 :: ptr y' :: .slice a1' l1' k1' :: .slice a2' l2' k2' :: cs') 0:=
 ⟨y,y',a1,a2,a1',a2',l1,k1,l2,k2,l1',k1',l2',k2',⟨rfl,rfl,rfl⟩,⟨rfl,rfl,rfl⟩,t,s1,s2⟩
theorem exNils (w:World):ExS w nils nils:=exRows (n:=0) (F:=fun _=>True) (G:=fun _=>True) (cs:=[]) (cs':=[]) (by omega) (by omega) (by omega) (Row.nil _ _ _) (Row.nil _ _ _) (fun i h=>by omega)
theorem exE {e:E} {d lv:Nat} (hf:Fits d lv e) {w:World} {B:Nat} {F G:Nat→Prop} {u u':Value} (hL:RLaid w B) (hl : (text e).length≤1099511627776) (h:EAt w F e [u]) (h':EAt w G e [u']) : ∃ y y',u=ptr y∧u'=ptr y'∧TextEq w (ptr y) (ptr y'):=by
 obtain ⟨y,rfl⟩:=EAt.ptrX hf.1.2 h
 obtain ⟨y',rfl⟩:=EAt.ptrX hf.1.2 h'
 exact ⟨y,y',rfl,rfl,text e,fun w' hc=>⟨(text_all e hf.1.1).1 hf.1.2 F _ w' B (hL.laid.kept hc (by simp)) (h.kept hc (by simp)) hl,rsaid_of hf hL h' hc hl⟩⟩
theorem exSt (s:S) : ∀ {d:Nat} {tab:List UInt8},WFS d s→(stmtsT s tab).length≤1000000 → ∀ {w:World} {B:Nat} {F G:Nat→Prop} {cs cs':List Value},RLaid w B→SAt w F s cs→SAt w G s cs' → ∀ i,i < s.len→ExAt w cs cs' i:=by
 induction s with
 | nil=>intro d tab _ _ w B F G cs cs' _ _ _ i h; cases h
 | set p n ix v r ih=>
  rintro d tab hw hb w B F G cs cs' hL ⟨ui,uv,t,rfl,h2,h3,h4⟩ ⟨ui',uv',t',rfl,g2,g3,g4⟩ i hi
  simp only [stmtsT,List.length_append,List.length_cons,List.length_nil] at hb
  obtain ⟨y,y',rfl,rfl,sy⟩:=exE hw.2.2.1 hL (by omega) h3 g3
  cases i with
  | zero=>exact .zero sy (exNils w) (exNils w)
  | succ i=>exact .succ (ih (tab:=tab) hw.2.2.2 (by omega) hL h4 g4 i (by simp [S.len] at hi; omega))
 | ret p v r ih=>
  rintro d tab hw hb w B F G cs cs' hL ⟨uv,t,rfl,h3,h4⟩ ⟨uv',t',rfl,g3,g4⟩ i hi
  simp only [stmtsT,List.length_append,List.length_cons,List.length_nil] at hb
  obtain ⟨y,y',rfl,rfl,sy⟩:=exE hw.1 hL (by omega) h3 g3
  cases i with
  | zero=>exact .zero sy (exNils w) (exNils w)
  | succ i=>exact .succ (ih (tab:=tab) hw.2 (by omega) hL h4 g4 i (by simp [S.len] at hi; omega))
 | wri p v r ih=>
  rintro d tab hw hb w B F G cs cs' hL ⟨uv,t,rfl,h3,h4⟩ ⟨uv',t',rfl,g3,g4⟩ i hi
  simp only [stmtsT,List.length_append,List.length_cons,List.length_nil] at hb
  obtain ⟨y,y',rfl,rfl,sy⟩:=exE hw.1 hL (by omega) h3 g3
  cases i with
  | zero=>exact .zero sy (exNils w) (exNils w)
  | succ i=>exact .succ (ih (tab:=tab) hw.2 (by omega) hL h4 g4 i (by simp [S.len] at hi; omega))
 | call p v r ih=>
  rintro d tab hw hb w B F G cs cs' hL ⟨uv,t,rfl,h3,h4⟩ ⟨uv',t',rfl,g3,g4⟩ i hi
  simp only [stmtsT,List.length_append,List.length_cons,List.length_nil] at hb
  obtain ⟨y,y',rfl,rfl,sy⟩:=exE hw.1.1 hL (by omega) h3 g3
  cases i with
  | zero=>exact .zero sy (exNils w) (exNils w)
  | succ i=>exact .succ (ih (tab:=tab) hw.2 (by omega) hL h4 g4 i (by simp [S.len] at hi; omega))
 | whil p v t r ih1 ih2=>
  rintro d tab hw hb w B F G cs cs' hL ⟨uv,a1,c1,ts,q,rfl,h3,hc,hr,ht,h4⟩ ⟨uv',a1',c1',ts',q',rfl,g3,gc,gr,gt,g4⟩ i hi
  simp only [stmtsT,List.length_append,List.length_cons,List.length_nil] at hb
  have hl:=stmts_len t (tab ++ [32,32])
  obtain ⟨y,y',rfl,rfl,sy⟩:=exE hw.1 hL (by omega) h3 g3
  cases i with
  | zero=>exact .zero sy (exRows (by omega) hc gc hr gr (ih1 (tab:=tab ++ [32,32]) hw.2.1.2 (by omega) hL ht gt)) (exNils w)
  | succ i=>exact .succ (ih2 (tab:=tab) hw.2.2 (by omega) hL h4 g4 i (by simp [S.len] at hi; omega))
 | ifs p v t e r ih1 ih2 ih3=>
  rintro d tab hw hb w B F G cs cs' hL ⟨uv,a1,c1,ts,a2,c2,es,q,rfl,h3,hc,hr,ht,hc2,hr2,he,h4⟩ ⟨uv',a1',c1',ts',a2',c2',es',q',rfl,g3,gc,gr,gt,gc2,gr2,ge,g4⟩ i hi
  simp only [stmtsT,List.length_append,List.length_cons,List.length_nil] at hb
  have hbe : (stmtsT e (tab ++ [32,32])).length≤1000000:=by
   cases hz : e.isNil with
   | true=>cases e <;> first | (simp [S.isNil] at hz; done) | simp [stmtsT]
   | false=>simp only [hz,Bool.false_eq_true,if_false,List.length_append] at hb; omega
  have hl:=stmts_len t (tab ++ [32,32]); have hl2:=stmts_len e (tab ++ [32,32])
  obtain ⟨y,y',rfl,rfl,sy⟩:=exE hw.1 hL (by omega) h3 g3
  cases i with
  | zero=>exact .zero sy (exRows (by omega) hc gc hr gr (ih1 (tab:=tab ++ [32,32]) hw.2.1.1.2 (by omega) hL ht gt)) (exRows (by omega) hc2 gc2 hr2 gr2 (ih2 (tab:=tab ++ [32,32]) hw.2.1.2.2 hbe hL he ge))
  | succ i=>exact .succ (ih3 (tab:=tab) hw.2.2 (by omega) hL h4 g4 i (by simp [S.len] at hi; omega))
theorem exprs_any {s:S} {d:Nat} (hw:WFS d s) (hb : (stmtsT s []).length≤1000000) {w:World} {B:Nat} {F G:Nat→Prop} {v v':Value} (hL:RLaid w B) (h:SlAt w F s v) (h':SlAt w G s v'):ExS w v v':=by
 obtain ⟨a,c,cs,rfl,hc,hr,hs⟩:=h; obtain ⟨a',c',cs',rfl,hc',hr',hs'⟩:=h'
 have:=stmts_len s []
 exact exRows (by omega) hc hc' hr hr' (exSt s hw hb hL hs hs')
end Go.Proofs.YtojkkgghndeimaaGreatDoor
namespace Go.Mq.Tree
open Go Go.RowKit Go.Mq
theorem stmts_tab : ∀ (s:S) (tab:List UInt8),(stmtsT s []).length≤(stmtsT s tab).length:=by
 have h : ∀ (s:S) (t1 t2:List UInt8),t1.length≤t2.length→(stmtsT s t1).length≤(stmtsT s t2).length:=by
  intro s
  induction s with
  | nil=>intro t1 t2 _; exact Nat.le_refl _
  | set p n i v r ih=>intro t1 t2 ht; have:=ih t1 t2 ht; simp only [stmtsT,List.length_append]; omega
  | ret p v r ih=>intro t1 t2 ht; have:=ih t1 t2 ht; simp only [stmtsT,List.length_append]; omega
  | wri p v r ih=>intro t1 t2 ht; have:=ih t1 t2 ht; simp only [stmtsT,List.length_append]; omega
  | call p v r ih=>intro t1 t2 ht; have:=ih t1 t2 ht; simp only [stmtsT,List.length_append]; omega
  | whil p v t r ih1 ih2=>
   intro t1 t2 ht
   have h1:=ih1 (t1 ++ [32,32]) (t2 ++ [32,32]) (by simpa using ht); have h2:=ih2 t1 t2 ht
   simp only [stmtsT,List.length_append] at *; omega
  | ifs p v t e r ih1 ih2 ih3=>
   intro t1 t2 ht
   have h1:=ih1 (t1 ++ [32,32]) (t2 ++ [32,32]) (by simpa using ht); have h2:=ih2 (t1 ++ [32,32]) (t2 ++ [32,32]) (by simpa using ht); have h3:=ih3 t1 t2 ht
   cases he : e.isNil <;> simp only [stmtsT,he,List.length_append,if_true,if_false,Bool.false_eq_true] at * <;> omega
 exact fun s tab=>h s [] tab (Nat.zero_le _)
end Go.Mq.Tree
namespace Go.Proofs.YtojkkgghndeimaaGreatDoor
open Go Go.RowKit Go.Mq Go.Mq.Tree Go.Mq.Ref
set_option maxRecDepth 100000
set_option maxHeartbeats 16000000
theorem sNeq {ops:Array Oper} {E:Oper→Bool} {S:World→Prop} {R:Act→World→Prop} {rest:List Oper} {a:Act} {w:World} {o:Oper} {x y:Operand} {t:TypeId} (h : wpX Tryz.prog ops E S R rest (a.put o.dst (.bool false)) w) (hall : ∀ w',(execOp a.eval o).run Tryz.prog w' = .ok (.value (.bool false)) w')
  (hop : o.op = .binOp .neq 34 x y t) (hw:Region.wanted o (yielded ops a.tmps)=true:=by exact rfl) : wpX Tryz.prog ops E S R (o :: rest) a w:=.inl ⟨_,.inl ⟨hw,fun w' _=>hall w'⟩,h⟩
theorem reads_any (s:ByteArray) (w:World) (hL:Laid w w.heap.size) (hR:RLaid w w.heap.size) (hE:ErrLaid w):Calls Tryz.prog 5 #[.string s] w fun e w'=>e = .returned (.bool true)∧Chg [] w w':=by
 obtain ⟨l,rfl⟩ : ∃ l:List UInt8,s=bs l:=⟨s.data.toList,by rw [bs_toList]⟩
 have HL:=Lib.hid hL; have HR:=Lib.hid hR; have HE:=Lib.hid hE
 clear hL hR hE
 by_cases hlen : 1500 < l.length
 ·have hd : decide ((1500:Int) < (l.length:Int))=true:=by simp; omega
  go_enter Tryz.func5,Tryz.ntmps5
  go_wp2_with fail
  go_ret
  exact ⟨rfl,Chg.refl _ _⟩
 have hd : decide ((1500:Int) < (l.length:Int))=false:=by simp; omega
 have HLEN:=Lib.hid hlen
 clear hlen
 go_enter Tryz.func5,Tryz.ntmps5
 go_wp2_with fail
 refine (rparse_any l (by have:=HLEN.out; omega) w w.heap.size HR.out).mono ?_; intro e wA he
 obtain ⟨hcA,v,rfl,hmA⟩:=rout he
 have hsm:SmM (outM (parse l)):=outM_few (by have:=HLEN.out; omega)
 obtain ⟨M,hM⟩ : ∃ x,x=outM (parse l):=⟨_,rfl⟩
 obtain ⟨en,hen⟩ : ∃ x,x=outE (parse l):=⟨_,rfl⟩
 obtain ⟨pp,hpp⟩ : ∃ x,x=outP (parse l):=⟨_,rfl⟩
 rw [← hM] at hmA hsm
 rw [← hen,← hpp]
 have HPM:=Lib.hid (And.intro hM (And.intro hen hpp)); clear hM hen hpp
 obtain ⟨a1,c1,a2,c2,a3,c3,a4,c4,rfl,hbA⟩:=modS hmA
 obtain ⟨wB,hwB⟩ : ∃ x,(wA.alloc (.cells #[str [],nils,nils,nils,nils] 31)).alloc (.cells #[num 0,num 0] 34)=x:=⟨_,rfl⟩
 have hcB:Chg [] wA wB:=hwB ▸ ((Chg.refl _ _).alloc _).alloc _
 have hbm:Blk wB wA.heap.size #[str [],nils,nils,nils,nils] 31:=hwB ▸ (Blk.new wA _ _).kept ((Chg.refl [] _).alloc _) (by simp)
 have hbf:Blk wB (wA.heap.size + 1) #[num 0,num 0] 34:=by
  have:=Blk.new (wA.alloc (.cells #[str [],nils,nils,nils,nils] 31)) #[num 0,num 0] 34
  rw [show (wA.alloc (.cells #[str [],nils,nils,nils,nils] 31)).heap.size=wA.heap.size + 1 by simp,hwB] at this; exact this
 obtain ⟨m0,m1,m2,m3,m4⟩:=hbm.five
 have mf0:=hbm.frozen 0; have mf1:=hbm.frozen 1; have mf2:=hbm.frozen 2; have mf3:=hbm.frozen 3; have mf4:=hbm.frozen 4
 obtain ⟨wX,hwX,hcX,hbX⟩:=set5 (str M.name) (.slice a1 M.imports.length c1) (.slice a2 M.vars.length c2) (.slice a3 M.procs.length c3) (.slice a4 M.body.len c4) hbm
 have hfX:=hbf.kept hcX (by simp)
 have k0:=hfX.cell 0 (num 0) rfl; have k1:=hfX.cell 1 (num 0) rfl; have kf0:=hfX.frozen 0; have kf1:=hfX.frozen 1
 obtain ⟨wY,hwY,hcY,hbY⟩:=set2 (num en) (num pp) hfX
 have hbXY:=hbX.kept hcY (by simp)
 have hcAY:Chg [] wA wY:=(hcB.trans hcX (fun x hx=>.inr (by simp at hx; omega))).trans hcY (fun x hx=>.inr (by simp at hx; omega))
 have HCA:=Lib.hid hcA; have HCAY:=Lib.hid hcAY; have HMA:=Lib.hid hmA; have HSM:=Lib.hid hsm; have HBX:=Lib.hid hbXY; have HBY:=Lib.hid hbY; have HBA:=Lib.hid hbA
 clear he hcA hmA hsm hcB hbm hbf hcX hbX hfX hcY hbY hbXY hcAY hbA
 go_wp2_with fail
 clear m0 m1 m2 m3 m4 mf0 mf1 mf2 mf3 mf4 k0 k1 kf0 kf1 hwB hwX hwY
 have HLy:=Lib.hid (HL.out.kept (HCA.out.then HCAY.out) (by simp))
 refine (parse_any l (by have:=HLEN.out; omega) wY w.heap.size HLy.out).mono ?_; intro e wC he
 obtain ⟨hcC,v,ev,rfl,hev,hmC⟩:=tout he
 rw [← HPM.out.1] at hmC
 rw [← HPM.out.2.1,← HPM.out.2.2] at hev
 obtain ⟨d1,e1,d2,e2,d3,e3,d4,e4,rfl,hbC⟩:=modS hmC
 obtain ⟨wE,hwE⟩ : ∃ x,wC.alloc (.cells #[str [],nils,nils,nils,nils] 31)=x:=⟨_,rfl⟩
 have hcE:Chg [] wC wE:=hwE ▸ (Chg.refl _ _).alloc _
 have hbm:Blk wE wC.heap.size #[str [],nils,nils,nils,nils] 31:=hwE ▸ Blk.new wC _ _
 obtain ⟨m0,m1,m2,m3,m4⟩:=hbm.five
 have mf0:=hbm.frozen 0; have mf1:=hbm.frozen 1; have mf2:=hbm.frozen 2; have mf3:=hbm.frozen 3; have mf4:=hbm.frozen 4
 obtain ⟨wF,hwF,hcF,hbF⟩:=set5 (str M.name) (.slice d1 M.imports.length e1) (.slice d2 M.vars.length e2) (.slice d3 M.procs.length e3) (.slice d4 M.body.len e4) hbm
 have hcCF:Chg [] wC wF:=hcE.trans hcF (fun x hx=>.inr (by simp at hx; omega))
 have hbX:=HBX.out.kept (hcC.then hcCF) (by simp)
 have hbY:=HBY.out.kept (hcC.then hcCF) (by simp)
 have y0:=hbY.cell 0 (num en) rfl; have y1:=hbY.cell 1 (num pp) rfl
 have HBF:=Lib.hid hbF; have HBX2:=Lib.hid hbX; have HBY2:=Lib.hid hbY
 have HCYF:=Lib.hid (hcC.then hcCF); have HCC:=Lib.hid hcC; have HCCF:=Lib.hid hcCF
 have HEV:=Lib.hid (show ErrIs wF ev en pp from by
  rcases hev with h | ⟨b,h,hb⟩
  ·exact .inl h
  ·exact .inr ⟨b,h,hb.kept hcCF (by simp)⟩)
 have HMC:=Lib.hid hmC; have HBC:=Lib.hid hbC
 clear he hcC hcE hcF hcCF hbX hbY hbF hev hmC hbm hbC
 go_wp2_with fail
 clear m0 m1 m2 m3 m4 mf0 mf1 mf2 mf3 mf4 y0 y1 hwE hwF
 have HCW:=Lib.hid ((HCA.out.then HCAY.out).then HCYF.out)
 have HEF:=Lib.hid (HE.out.kept HCW.out (by simp))
 refine (is_same HEF.out HEV.out).mono ?_; rintro _ wG ⟨rfl,hcG⟩
 have hb1:=HBF.out.kept hcG (by simp)
 have hb2:=HBX2.out.kept hcG (by simp)
 obtain ⟨m0,m1,m2,m3,m4⟩:=hb1.five
 obtain ⟨n0,n1',n2',n3',n4'⟩:=hb2.five
 have hm1:=HMC.out.kept (HCCF.out.then hcG) (by simp)
 have hm2:=HMA.out.kept ((HCAY.out.then HCYF.out).then hcG) (by simp)
 have HSAME:=Lib.hid (sameModule_any HSM.out hm1 hm2)
 have HCG:=Lib.hid (HCW.out.then hcG); have HCG0:=Lib.hid hcG
 clear hcG hb1 hb2 hm1 hm2
 go_wp2_with fail
 refine HSAME.out.mono ?_; rintro _ wH ⟨rfl,hcH⟩
 have HCH:=Lib.hid (HCG0.out.then hcH); have HCE:=Lib.hid (HCG.out.then hcH)
 have HCG2:=Lib.hid (HCG.out.then hcH)
 clear hcH m0 m1 m2 m3 m4 n0 n1' n2' n3' n4'
 go_upto_region 7 with fail
 cases hr : parse l with
 | bad e p=>
  obtain rfl : en=(e:Int):=by rw [HPM.out.2.1,hr]; rfl
  obtain rfl : pp=(p:Int):=by rw [HPM.out.2.2,hr]; rfl
  have hbY:=HBY2.out.kept HCH.out (by simp)
  have y0:=hbY.cell 0 (num e) rfl; have y1:=hbY.cell 1 (num p) rfl
  have hRH:=HR.out.kept HCE.out (by simp)
  have f0:=hRH.fine0; have f1:=hRH.fine1
  have hp1 : ((p:Int) == -1)=false:=by simp <;> omega
  clear hbY hRH hr
  go_region
  all_goals (try go_wp2_with fail)
  all_goals
   go_ret
   exact ⟨rfl,HCE.out.drew⟩
 | ok m=>
  obtain rfl : en=0:=by rw [HPM.out.2.1,hr]; rfl
  obtain rfl : pp = -1:=by rw [HPM.out.2.2,hr]; rfl
  obtain rfl:M=m:=by rw [HPM.out.1,hr]; rfl
  obtain ⟨hwf,hle⟩:=parse_le hr
  have hle2 : (modT M).length≤1000000:=by have:=HLEN.out; omega
  have HMT:=Lib.hid hle2; have HWF:=Lib.hid hwf
  have HBD:Hid ((stmtsT M.body []).length≤1000000):=Lib.hid (by have h1:=stmts_tab M.body [32,32]; simp only [modT,List.length_append] at hle2; omega)
  clear hr hwf hle hle2
  refine wp_region_C [] rfl (by kernel_rfl) ?_
  obtain ⟨wD,hwD⟩ : ∃ x,x=wH.drew:=⟨_,rfl⟩
  rw [← hwD]
  have hcHD:Chg [] wH wD:=by rw [hwD]; exact (Chg.refl [] wH).drew
  clear hwD
  have hcFD:=HCH.out.then hcHD
  have hcCD:=HCCF.out.then hcFD
  have hcAD:=(HCAY.out.then HCYF.out).then hcFD
  have HCED:=Lib.hid (HCE.out.then hcHD)
  have HRD:=Lib.hid (HR.out.kept (HCE.out.then hcHD) (by simp))
  have hbF:=HBF.out.kept hcFD (by simp); have hbX:=HBX2.out.kept hcFD (by simp); have hbY:=HBY2.out.kept hcFD (by simp)
  have y0:=hbY.cell 0 (num 0) rfl; have y1:=hbY.cell 1 (num (-1)) rfl
  obtain ⟨m0,m1,m2,m3,m4⟩:=hbF.five; obtain ⟨n0,n1',n2',n3',n4'⟩:=hbX.five
  have f0:=HRD.out.fine0; have f1:=HRD.out.fine1
  have HLF:=Lib.hid (show wC.heap.size < wD.heap.size from lt_of_cell m0)
  have HLX:=Lib.hid (show wA.heap.size < wD.heap.size from lt_of_cell n0)
  have HMD:=Lib.hid (HMC.out.kept hcCD (by simp)); have HMX:=Lib.hid (HMA.out.kept hcAD (by simp))
  have HBCD:=Lib.hid (HBC.out.kept hcCD (by simp)); have HBAD:=Lib.hid (HBA.out.kept hcAD (by simp))
  have HNF:=Lib.hid (show ∀ x,New wY wC x→x < wD.heap.size from fun x hx=>by have:=hx.2; have:=hcCD.size; omega)
  have hS:Chg [] wD wD:=Chg.refl _ _
  obtain ⟨t,ht⟩ : ∃ t,t=modT M:=⟨_,rfl⟩
  have HP1:=Lib.hid (print_any M HWF.out (New wY wC) _ wD w.heap.size HRD.out.laid HNF.out HMD.out (by have:=HMT.out; omega))
  have HP2:=Lib.hid (show ∀ w',Chg [] wD w'→Said 17 #[.agg #[str M.name,.slice a1 M.imports.length c1,.slice a2 M.vars.length c2,.slice a3 M.procs.length c3,.slice a4 M.body.len c4]] w' (bs (modT M)) from fun w' hc=>rprint_any M HWF.out (New w wA) _ w' w.heap.size (HRD.out.kept hc (by simp)) (HMX.out.kept hc (by simp)) (by have:=HMT.out; omega))
  rw [← ht] at HP1 HP2
  have HEX:=Lib.hid (exprs_any HWF.out.body HBD.out HRD.out HBCD.out HBAD.out)
  clear hcHD hcFD hcCD hcAD hbF hbX hbY ht
  repeat ((with_reducible refine gX ?_); (first | refine wpX_nil ?_ | refine sNeq ?_ (fun w'=>by kernel_rfl) rfl | refine sK ?_ | refine sM fun _ _=>?_ | refine sL fun _ _=>?_ | refine sE fun _ _=>?_); go_wp2_with fail)
  refine HP1.out.mono ?_; rintro _ w1 ⟨rfl,hc1⟩
  have hS1:=Chg.then hS hc1; have hk1:=Chg.cells hS1 HLF.out (by simp); have hk1':=Chg.cells hS1 HLX.out (by simp)
  clear hc1
  go_wp2_with fail
  refine And.intro (by assumption:Chg _ _ _) ?_
  repeat ((with_reducible refine gX ?_); (first | refine wpX_nil ?_ | refine sK ?_ | refine sM fun _ _=>?_ | refine sL fun _ _=>?_ | refine sE fun _ _=>?_); go_wp2_with fail)
  refine (HP2.out _ hS1).mono ?_; rintro _ w2 ⟨rfl,hc2⟩
  have hS2:=Chg.then hS1 hc2; have hk2:=Chg.cells hS2 HLF.out (by simp); have hk2':=Chg.cells hS2 HLX.out (by simp)
  clear hc2 hk1 hk1'
  go_wp2_with fail
  refine And.intro (by assumption:Chg _ _ _) ?_
  repeat ((with_reducible refine gX ?_); (first | refine wpX_nil ?_ | refine sK ?_ | refine sM fun _ _=>?_ | refine sL fun _ _=>?_ | refine sE fun _ _=>?_); go_wp2_with fail)
  refine (HEX.out _ hS2).mono ?_; rintro _ w3 ⟨rfl,hc3⟩
  have hS3:=Chg.then hS2 hc3
  have HEND:=Lib.hid (HCED.out.then hS3)
  clear hc3 hk2 hk2'
  go_wp2_with fail
  refine And.intro (by assumption:Chg _ _ _) ?_
  repeat ((with_reducible refine gX ?_); (first | refine wpX_nil ?_ | refine sK ?_ | refine sM fun _ _=>?_ | refine sL fun _ _=>?_ | refine sE fun _ _=>?_); go_wp2_with fail)
  go_ret
  exact ⟨rfl,HEND.out⟩
end Go.Proofs.YtojkkgghndeimaaGreatDoor
