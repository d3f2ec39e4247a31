/- Some texts in one. -/
import Derived.Test.YtojkkgghndeimaaGreatDoorS25
import Derived.Test.YtojkkgghndeimaaGreatDoorS28
import Derived.Test.YtojkkgghndeimaaGreatDoorS32
namespace Go.Proofs.YtojkkgghndeimaaGreatDoor
open Go Go.RowKit Go.Mq Go.Mq.Tree Go.Mq.Ref Go.Mq.Sym Go.Mq.Used
set_option maxRecDepth 100000
set_option maxHeartbeats 16000000
theorem tells_any (s g:ByteArray) (names:List (List UInt8)) (hn63 : names.length≤9223372036854775807) (hz63 : ∀ n∈names,n.length≤9223372036854775807) (hg63 : g.size≤9223372036854775807) (FN:Nat→Prop) (a0:Option Addr) (c0:Nat) (w:World) (hL:Laid w w.heap.size) (hR:RLaid w w.heap.size) (hE:ErrLaid w) (hN:NamesAt w FN names (.slice a0 names.length c0)) :
  Calls Tryz.prog 7 #[.string s,.string g,.slice a0 names.length c0] w fun e w'=>e = .returned (.bool true)∧Chg [] w w':=by
 obtain ⟨l,rfl⟩ : ∃ l:List UInt8,s=bs l:=⟨s.data.toList,by rw [bs_toList]⟩
 obtain ⟨g,rfl⟩ : ∃ l:List UInt8,g=bs l:=⟨g.data.toList,by rw [bs_toList]⟩
 have HL:=Lib.hid hL; have HR:=Lib.hid hR; have HE:=Lib.hid hE; have HN:=Lib.hid hN; have HZ:=Lib.hid hz63
 clear hL hR hE hN hz63
 by_cases hbig : 1000 < l.length∨40 < g.length∨10 < names.length
 ·go_enter Tryz.func7,Tryz.ntmps7
  by_cases h1 : 1000 < l.length
  ·have hd : decide ((1000:Int) < (l.length:Int))=true:=by simp; omega
   clear hbig
   go_wp2_with fail
   go_ret
   exact ⟨rfl,Chg.refl _ _⟩
  ·have hd : decide ((1000:Int) < (l.length:Int))=false:=by simp; omega
   by_cases h2 : 40 < g.length
   ·have hd2 : decide ((40:Int) < (g.length:Int))=true:=by simp; omega
    clear hbig
    go_wp2_with fail
    go_ret
    exact ⟨rfl,Chg.refl _ _⟩
   ·have hd2 : decide ((40:Int) < (g.length:Int))=false:=by simp; omega
    have hd3 : decide ((10:Int) < (names.length:Int))=true:=by simp; omega
    clear hbig
    go_wp2_with fail
    go_ret
    exact ⟨rfl,Chg.refl _ _⟩
 have hd1 : decide ((1000:Int) < (l.length:Int))=false:=by simp; omega
 have hd2 : decide ((40:Int) < (g.length:Int))=false:=by simp; omega
 have hd3 : decide ((10:Int) < (names.length:Int))=false:=by simp; omega
 have hlen : ¬ 1000 < l.length:=by omega
 have hnl : names.length≤10:=by omega
 have hgl : g.length≤40:=by omega
 have HLEN:=Lib.hid hlen
 clear hlen hbig
 go_enter Tryz.func7,Tryz.ntmps7
 go_wp2_with fail
 go_loopw [7] (fun i wr=>∃ k:Nat,k≤names.length∧i=num k∧(∀ (j:Nat) n,j < k→names[j]?=some n→n.length≤40)∧w=wr) (fun i _=>names.length - (intOf i).toNat)
 case atStart=>exact ⟨0,Nat.zero_le _,rfl,fun j n hj=>by omega,rfl⟩
 case round=>
  obtain ⟨k,hk,rfl,hno,rfl⟩:=hrel
  have HNO:=Lib.hid hno; clear hno
  by_cases hlt : k < names.length
  ·obtain ⟨n,hn⟩ : ∃ n,names[k]?=some n:=⟨names[k],List.getElem?_eq_getElem hlt⟩
   obtain ⟨a',c',he,_,hrow⟩:=HN.out
   cases he
   obtain ⟨bb,o,rfl,hcell⟩:=hrow.at_ (by simp; omega)
   have hcl:=hcell k (str n) (by rw [List.getElem?_map,hn]; rfl)
   have HNN:=Lib.hid hn
   clear hrow hcell hn
   by_cases h40 : 40 < n.length
   ·have hd : decide ((40:Int) < (n.length:Int))=true:=by simp; omega
    go_wp2_with fail
    go_ret
    exact ⟨rfl,Chg.refl _ _⟩
   ·have hd : decide ((40:Int) < (n.length:Int))=false:=by simp; omega
    go_wp2_with fail
    go_roundw
    case rel=>
     refine ⟨k + 1,by omega,by go_num,fun j x hj hx=>?_,by first | rfl | trivial⟩
     by_cases hjk : j < k
     ·exact HNO.out j x hjk hx
     ·have : j=k:=by omega
      subst this
      rw [HNN.out] at hx
      cases hx
      omega
    case measure=>simp [intOf]; omega
  ·have HSHORT:=Lib.hid (show ∀ n∈names,n.length≤40 from fun n hn=>by
    obtain ⟨j,hj⟩:=List.getElem?_of_mem hn
    exact HNO.out j n (by have:=(List.getElem?_eq_some_iff.1 hj).1; omega) hj)
   go_wp2_with fail
   refine (rparse_any l (by have:=HLEN.out; omega) w w.heap.size HR.out).mono ?_; intro e wA he
   obtain ⟨hcA,v,rfl,hmA⟩:=rout he
   have hsm:SmM (outM (parse l)):=outM_few (by have:=HLEN.out; omega)
   obtain ⟨M,hM⟩ : ∃ x,x=outM (parse l):=⟨_,rfl⟩
   obtain ⟨en,hen⟩ : ∃ x,x=outE (parse l):=⟨_,rfl⟩
   obtain ⟨pp,hpp⟩ : ∃ x,x=outP (parse l):=⟨_,rfl⟩
   rw [← hM] at hmA hsm
   rw [← hen,← hpp]
   have HPM:=Lib.hid (And.intro hM (And.intro hen hpp)); clear hM hen hpp
   obtain ⟨a1,c1,a2,c2,a3,c3,a4,c4,rfl,hbA⟩:=modS hmA
   obtain ⟨wB,hwB⟩ : ∃ x,(wA.alloc (.cells #[str [],nils,nils,nils,nils] 31)).alloc (.cells #[num 0,num 0] 34)=x:=⟨_,rfl⟩
   have hcB:Chg [] wA wB:=hwB ▸ ((Chg.refl _ _).alloc _).alloc _
   have hbm:Blk wB wA.heap.size #[str [],nils,nils,nils,nils] 31:=hwB ▸ (Blk.new wA _ _).kept ((Chg.refl [] _).alloc _) (by simp)
   have hbf:Blk wB (wA.heap.size + 1) #[num 0,num 0] 34:=by
    have:=Blk.new (wA.alloc (.cells #[str [],nils,nils,nils,nils] 31)) #[num 0,num 0] 34
    rw [show (wA.alloc (.cells #[str [],nils,nils,nils,nils] 31)).heap.size=wA.heap.size + 1 by simp,hwB] at this; exact this
   obtain ⟨m0,m1,m2,m3,m4⟩:=hbm.five
   have mf0:=hbm.frozen 0; have mf1:=hbm.frozen 1; have mf2:=hbm.frozen 2; have mf3:=hbm.frozen 3; have mf4:=hbm.frozen 4
   obtain ⟨wX,hwX,hcX,hbX⟩:=set5 (str M.name) (.slice a1 M.imports.length c1) (.slice a2 M.vars.length c2) (.slice a3 M.procs.length c3) (.slice a4 M.body.len c4) hbm
   have hfX:=hbf.kept hcX (by simp)
   have k0:=hfX.cell 0 (num 0) rfl; have k1:=hfX.cell 1 (num 0) rfl; have kf0:=hfX.frozen 0; have kf1:=hfX.frozen 1
   obtain ⟨wY,hwY,hcY,hbY⟩:=set2 (num en) (num pp) hfX
   have hbXY:=hbX.kept hcY (by simp)
   have hcAY:Chg [] wA wY:=(hcB.trans hcX (fun x hx=>.inr (by simp at hx; omega))).trans hcY (fun x hx=>.inr (by simp at hx; omega))
   have HCA:=Lib.hid hcA; have HCAY:=Lib.hid hcAY; have HMA:=Lib.hid hmA; have HSM:=Lib.hid hsm; have HBX:=Lib.hid hbXY; have HBY:=Lib.hid hbY; have HBA:=Lib.hid hbA
   clear he hcA hmA hsm hcB hbm hbf hcX hbX hfX hcY hbY hbXY hcAY hbA
   go_wp2_with fail
   clear m0 m1 m2 m3 m4 mf0 mf1 mf2 mf3 mf4 k0 k1 kf0 kf1 hwB hwX hwY
   have HLy:=Lib.hid (HL.out.kept (HCA.out.then HCAY.out) (by simp))
   refine (parse_any l (by have:=HLEN.out; omega) wY w.heap.size HLy.out).mono ?_; intro e wC he
   obtain ⟨hcC,v,ev,rfl,hev,hmC⟩:=tout he
   rw [← HPM.out.1] at hmC
   rw [← HPM.out.2.1,← HPM.out.2.2] at hev
   obtain ⟨d1,e1,d2,e2,d3,e3,d4,e4,rfl,hbC⟩:=modS hmC
   obtain ⟨wE,hwE⟩ : ∃ x,wC.alloc (.cells #[str [],nils,nils,nils,nils] 31)=x:=⟨_,rfl⟩
   have hcE:Chg [] wC wE:=hwE ▸ (Chg.refl _ _).alloc _
   have hbm:Blk wE wC.heap.size #[str [],nils,nils,nils,nils] 31:=hwE ▸ Blk.new wC _ _
   obtain ⟨m0,m1,m2,m3,m4⟩:=hbm.five
   have mf0:=hbm.frozen 0; have mf1:=hbm.frozen 1; have mf2:=hbm.frozen 2; have mf3:=hbm.frozen 3; have mf4:=hbm.frozen 4
   obtain ⟨wF,hwF,hcF,hbF⟩:=set5 (str M.name) (.slice d1 M.imports.length e1) (.slice d2 M.vars.length e2) (.slice d3 M.procs.length e3) (.slice d4 M.body.len e4) hbm
   have hcCF:Chg [] wC wF:=hcE.trans hcF (fun x hx=>.inr (by simp at hx; omega))
   have hbX:=HBX.out.kept (hcC.then hcCF) (by simp)
   have hbY:=HBY.out.kept (hcC.then hcCF) (by simp)
   have y0:=hbY.cell 0 (num en) rfl; have y1:=hbY.cell 1 (num pp) rfl
   have HBF:=Lib.hid hbF; have HBX2:=Lib.hid hbX; have HBY2:=Lib.hid hbY
   have HCYF:=Lib.hid (hcC.then hcCF); have HCC:=Lib.hid hcC; have HCCF:=Lib.hid hcCF
   have HEV:=Lib.hid (show ErrIs wF ev en pp from by
    rcases hev with h | ⟨b,h,hb⟩
    ·exact .inl h
    ·exact .inr ⟨b,h,hb.kept hcCF (by simp)⟩)
   have HMC:=Lib.hid hmC; have HBC:=Lib.hid hbC
   clear he hcC hcE hcF hcCF hbX hbY hbF hev hmC hbm hbC
   have HRF:=Lib.hid (HR.out.kept (HCA.out.then (HCAY.out.then HCYF.out)) (by simp))
   have HEF:=Lib.hid (HE.out.kept (HCA.out.then (HCAY.out.then HCYF.out)) (by simp))
   have HCWF:=Lib.hid (HCA.out.then (HCAY.out.then HCYF.out))
   have f0:=HRF.out.fine0; have f1:=HRF.out.fine1
   cases hr : parse l with
   | bad e p=>
    obtain rfl : en=(e:Int):=by rw [HPM.out.2.1,hr]; rfl
    obtain rfl : pp=(p:Int):=by rw [HPM.out.2.2,hr]; rfl
    have hp1 : ((p:Int) == -1)=false:=by simp <;> omega
    clear hr
    go_wp2_with fail
    refine (is_same HEF.out HEV.out).mono ?_; rintro _ wG ⟨rfl,hcG⟩
    have HCG:=Lib.hid (HCWF.out.then hcG)
    clear hcG
    go_wp2_with fail
    go_ret
    exact ⟨rfl,HCG.out⟩
   | ok m=>
    obtain rfl : en=0:=by rw [HPM.out.2.1,hr]; rfl
    obtain rfl : pp = -1:=by rw [HPM.out.2.2,hr]; rfl
    obtain rfl:M=m:=by rw [HPM.out.1,hr]; rfl
    obtain ⟨hwf,hmk⟩:=parse_sp hr
    have HWF:=Lib.hid hwf
    have HFM:=Lib.hid (Check.few_mod (by have:=HLEN.out; omega) hr)
    have hmk1 : (modK M).length≤1000:=by have:=HLEN.out; omega
    have HCN:=Lib.hid (show cntP M.procs + cntS M.body≤1000 from Nat.le_trans (cntM_le M) hmk1)
    have HMK:=Lib.hid hmk1
    have HUS:=Lib.hid (show (usedL g M).length≤1000 from Nat.le_trans (usedL_len g M) hmk1)
    have hev:=HEV.out
    clear hr hwf hmk hmk1
    rcases hev with ⟨rfl,_,_⟩ | ⟨be,rfl,_⟩
    rotate_left
    ·go_wp2_with fail
     refine (is_same HEF.out HEV.out).mono ?_; rintro _ wG ⟨rfl,hcG⟩
     have HCG:=Lib.hid (HCWF.out.then hcG)
     clear hcG
     go_wp2_with fail
     go_ret
     exact ⟨rfl,HCG.out⟩
    go_wp2_with fail
    clear m0 m1 m2 m3 m4 mf0 mf1 mf2 mf3 mf4 y0 y1 hwE hwF f0 f1
    have hmC:=HMC.out.kept HCCF.out (by simp); have hmA:=HMA.out.kept (HCAY.out.then HCYF.out) (by simp)
    have hFC : ∀ x,New wY wC x→x < wF.heap.size:=fun x hx=>by have:=hx.2; have:=HCCF.out.size; omega
    have hFA : ∀ x,New w wA x→x < wF.heap.size:=fun x hx=>by have:=hx.2; have:=(HCAY.out.then HCYF.out).size; omega
    obtain ⟨wD,hwD⟩ : ∃ x,x=wF.drew:=⟨_,rfl⟩
    have hcD:Chg [] wF wD:=by rw [hwD]; exact (Chg.refl [] wF).drew
    have HMC2:=Lib.hid (hmC.kept hcD (by simp)); have HMA2:=Lib.hid (hmA.kept hcD (by simp))
    have HFC:=Lib.hid (show ∀ x,New wY wC x→x < wD.heap.size from fun x hx=>by have:=hFC x hx; have:=hcD.size; omega)
    have HFA:=Lib.hid (show ∀ x,New w wA x→x < wD.heap.size from fun x hx=>by have:=hFA x hx; have:=hcD.size; omega)
    obtain ⟨m0,m1,m2,m3,m4⟩:=(HBF.out.kept hcD (by simp)).five
    obtain ⟨n0,n1',n2',n3',n4'⟩:=(HBX2.out.kept hcD (by simp)).five
    have HLF:=Lib.hid (show wC.heap.size < wD.heap.size from lt_of_cell m0)
    have HLX:=Lib.hid (show wA.heap.size < wD.heap.size from lt_of_cell n0)
    have HCD:=Lib.hid (HCWF.out.then hcD)
    have HBFD:=Lib.hid (HBF.out.kept hcD (by simp)); have HBXD:=Lib.hid (HBX2.out.kept hcD (by simp))
    obtain ⟨L,hL⟩ : ∃ x,x=insSort (seenL M.vars M.procs):=⟨_,rfl⟩
    have HOFR:=Lib.hid (show ∀ w',Chg [] wD w'→Calls Tryz.prog 13 #[.agg #[str M.name,.slice a1 M.imports.length c1,.slice a2 M.vars.length c2,.slice a3 M.procs.length c3,.slice a4 M.body.len c4]] w' (fun e w2=>∃ v,e = .returned v∧SymsAt w2 (New w' w2) L v∧Chg [] w' w2) from fun w' hc=>by
     obtain ⟨vi,vv,vp,vb,he,_,hgv,hpv,_⟩:=HMA2.out.kept hc (by simp)
     cases he
     rw [hL]
     exact rof_any M.vars M.procs HWF.out.fewv HWF.out.fewp (New w wA) M.name a1 _ c1 a4 _ c4 _ _ w' (fun x hx=>by have:=HFA.out x hx; have:=hc.size; omega) hgv (procsL_of hpv))
    have HOFS:=Lib.hid (show ∀ w',Chg [] wD w'→Calls Tryz.prog 25 #[.agg #[str M.name,.slice d1 M.imports.length e1,.slice d2 M.vars.length e2,.slice d3 M.procs.length e3,.slice d4 M.body.len e4]] w' (fun e w2=>∃ v,e = .returned v∧SymsAt w2 (New w' w2) L v∧Chg [] w' w2) from fun w' hc=>by
     obtain ⟨vi,vv,vp,vb,he,_,hgv,hpv,_⟩:=HMC2.out.kept hc (by simp)
     cases he
     rw [hL]
     exact of_any M.vars M.procs HWF.out.fewv HWF.out.fewp (New wY wC) M.name d1 _ e1 d4 _ e4 _ _ w' hgv (procsL_of hpv))
    have HFIT:=Lib.hid (show ∀ x∈L,x.fit from by rw [hL]; exact seenL_fit HWF.out.vars HWF.out.procs)
    have hl20:L.length≤20:=by rw [hL]; exact seenL_len HWF.out.fewv HWF.out.fewp
    clear hmC hmA hFC hFA hL
    refine wp_region_C [] rfl (by kernel_rfl) ?_
    rw [← hwD]
    clear hwD hcD
    have hS:Chg [] wD wD:=Chg.refl _ _
    repeat ((with_reducible refine gX ?_); (first | refine wpX_nil ?_ | refine sK ?_ | refine sM fun _ _=>?_ | refine sL fun _ _=>?_ | refine sE fun _ _=>?_); go_wp2_with fail)
    refine (HOFR.out wD hS).mono ?_; rintro _ w2 ⟨va,rfl,hsa,hc2⟩
    have HSA:=Lib.hid hsa
    obtain ⟨xa,ya,rfl,_⟩:=hsa
    have hS2:=Chg.then hS hc2; have hk2:=Chg.cells hS2 HLF.out (by simp); have hk2':=Chg.cells hS2 HLX.out (by simp)
    clear hc2
    go_wp2_with fail
    refine And.intro (by assumption:Chg _ _ _) ?_
    repeat ((with_reducible refine gX ?_); (first | refine wpX_nil ?_ | refine sK ?_ | refine sM fun _ _=>?_ | refine sL fun _ _=>?_ | refine sE fun _ _=>?_); go_wp2_with fail)
    refine (HOFS.out w2 hS2).mono ?_; rintro _ w3 ⟨vb,rfl,hsb,hc3⟩
    have HSB:=Lib.hid hsb
    obtain ⟨xb,yb,rfl,_⟩:=hsb
    have HSA3:=Lib.hid (HSA.out.kept hc3 (by simp))
    have hS3:=Chg.then hS2 hc3
    have HC3:=Lib.hid hS3
    clear hc3 hk2 hk2'
    go_wp2_with fail
    refine And.intro (by assumption:Chg _ _ _) ?_
    repeat ((with_reducible refine gX ?_); (first | refine wpX_nil ?_ | refine sK ?_ | refine sM fun _ _=>?_ | refine sL fun _ _=>?_ | refine sE fun _ _=>?_); go_wp2_with fail)
    clear hS hS2 hS3 m0 m1 m2 m3 m4 n0 n1' n2' n3' n4'
    go_wp2_with fail
    obtain ⟨wE,hwE⟩ : ∃ x,x=w3.drew:=⟨_,rfl⟩
    have hcE:Chg [] w3 wE:=by rw [hwE]; exact (Chg.refl [] w3).drew
    have HDE:=Lib.hid (HC3.out.then hcE)
    have HSAE:=Lib.hid (HSA3.out.kept hcE (by simp)); have HSBE:=Lib.hid (HSB.out.kept hcE (by simp))
    have HB3:=Lib.hid (And.intro HSA3.out HSB.out)
    obtain ⟨m0,m1,m2,m3,m4⟩:=(HBFD.out.kept HDE.out (by simp)).five
    obtain ⟨n0,n1',n2',n3',n4'⟩:=(HBXD.out.kept HDE.out (by simp)).five
    have HLF:=Lib.hid (show wC.heap.size < wE.heap.size from lt_of_cell m0)
    have HLX:=Lib.hid (show wA.heap.size < wE.heap.size from lt_of_cell n0)
    have HCE2:=Lib.hid (HCD.out.then HDE.out)
    have HLE:=Lib.hid (show ∀ w',Chg [] wE w'→RLaid w' w.heap.size from fun w' hc=>HR.out.kept (HCE2.out.then hc) (by simp))
    have HNE:=Lib.hid (show ∀ w',Chg [] wE w'→NamesAt w' FN names (.slice a0 names.length c0) from fun w' hc=>HN.out.kept (HCE2.out.then hc) (by simp))
    obtain ⟨tp,htp⟩ : ∃ t,t=printT L:=⟨_,rfl⟩
    obtain ⟨tn,htn⟩ : ∃ t,t=needsT L names:=⟨_,rfl⟩
    have hFB : ∀ x,New w2 w3 x→x < wE.heap.size:=fun x hx=>by have:=hx.2; have:=hcE.size; omega
    have K1:=Lib.hid (show ∀ w',Chg [] wE w'→Calls Tryz.prog 26 #[.slice xb L.length yb,.slice xa L.length ya] w' (Yes w') from fun w' hc=>sameSyms_any (HSBE.out.kept hc (by simp)) (HSAE.out.kept hc (by simp)) (by omega))
    have K2:=Lib.hid (show ∀ w',Chg [] wE w'→Calls Tryz.prog 27 #[.slice xb L.length yb] w' (fun e w2=>e = .returned (str tp)∧Chg [] w' w2) from fun w' hc=>by
     rw [htp]; exact sprint_any L HFIT.out (by omega) _ _ w' w.heap.size (HLE.out w' hc).laid (fun x hx=>by have:=hFB x hx; have:=hc.size; omega) (HSBE.out.kept hc (by simp)))
    have K3:=Lib.hid (show ∀ w',Chg [] wE w'→Calls Tryz.prog 28 #[.slice xa L.length ya] w' (fun e w2=>e = .returned (str tp)∧Chg [] w' w2) from fun w' hc=>by
     rw [htp]; exact rsyms_any L HFIT.out (by omega) _ _ w' w.heap.size (HLE.out w' hc).laid (HSAE.out.kept hc (by simp)))
    have K4:=Lib.hid (show ∀ w',Chg [] wE w'→Calls Tryz.prog 29 #[.agg #[str M.name,.slice d1 M.imports.length e1,.slice d2 M.vars.length e2,.slice d3 M.procs.length e3,.slice d4 M.body.len e4],str g] w' (fun e w2=>∃ u,e = .returned u∧NamesAt w2 (fun x=>w'.heap.size≤x∧x < w2.heap.size) (usedL g M) u∧Chg [] w' w2) from fun w' hc=>
     used_any M HFM.out HCN.out g (New wY wC) _ w' (fun x hx=>by have:=HFC.out x hx; have:=(HDE.out.then hc).size; omega) (HMC2.out.kept (HDE.out.then hc) (by simp)))
    have K5:=Lib.hid (show ∀ w',Chg [] wE w'→Calls Tryz.prog 30 #[.agg #[str M.name,.slice a1 M.imports.length c1,.slice a2 M.vars.length c2,.slice a3 M.procs.length c3,.slice a4 M.body.len c4],str g] w' (fun e w2=>∃ u,e = .returned u∧NamesAt w2 (fun x=>w'.heap.size≤x∧x < w2.heap.size) (usedL g M) u∧Chg [] w' w2) from fun w' hc=>
     rused_any M HWF.out (by have:=HMK.out; omega) HCN.out g (New w wA) _ w' (fun x hx=>by have:=HFA.out x hx; have:=(HDE.out.then hc).size; omega) (HMA2.out.kept (HDE.out.then hc) (by simp)))
    have K7:=Lib.hid (show ∀ w',Calls Tryz.prog 31 #[str l] w' (fun e w2=>e = .returned (.int .u32 (fnv l))∧w2=w') from fun w'=>sum_any l (by have:=HLEN.out; omega) w')
    have K8:=Lib.hid (show ∀ w',Calls Tryz.prog 32 #[str l] w' (fun e w2=>e = .returned (.int .u32 (fnv l))∧w2=w') from fun w'=>rsum_any l (by have:=HLEN.out; omega) w')
    have K9:=Lib.hid (show ∀ w',Chg [] wE w'→Calls Tryz.prog 33 #[.slice xb L.length yb,.slice a0 names.length c0] w' (fun e w2=>e = .returned (str tn)∧Chg [] w' w2) from fun w' hc=>by
     rw [htn]; exact needs_any L HFIT.out (by omega) names (by omega) (fun n hn=>by have:=HSHORT.out n hn; omega) _ FN _ _ w' w.heap.size (HLE.out w' hc).laid (HSBE.out.kept hc (by simp)) (HNE.out w' hc))
    have K10:=Lib.hid (show ∀ w',Chg [] wE w'→Calls Tryz.prog 34 #[.slice xa L.length ya,.slice a0 names.length c0] w' (fun e w2=>e = .returned (str tn)∧Chg [] w' w2) from fun w' hc=>by
     rw [htn]; exact rneeds_any L HFIT.out (by omega) names (by omega) (fun n hn=>by have:=HSHORT.out n hn; omega) _ FN _ _ w' w.heap.size (HLE.out w' hc).laid (HSAE.out.kept hc (by simp)) (HNE.out w' hc))
    clear hcE hFB htp htn
    obtain ⟨sm,hsm⟩ : ∃ x,x=fnv l:=⟨_,rfl⟩
    rw [← hsm] at K7 K8
    clear hsm
    refine wp_region_C [] rfl (by kernel_rfl) ?_
    rw [← hwE]
    clear hwE
    have hS0:Chg [] wE wE:=Chg.refl _ _
    repeat ((with_reducible refine gX ?_); (first | refine wpX_nil ?_ | refine sK ?_ | refine sM fun _ _=>?_ | refine sL fun _ _=>?_ | refine sE fun _ _=>?_); go_wp2_with fail)
    refine (K1.out wE hS0).mono ?_; rintro _ v1 ⟨rfl,hv⟩
    have hS1:=Chg.then hS0 hv
    clear hv
    have hk1:=Chg.cells hS1 HLF.out (by simp); have hk1':=Chg.cells hS1 HLX.out (by simp)
    go_wp2_with fail
    refine And.intro (by assumption:Chg _ _ _) ?_
    repeat ((with_reducible refine gX ?_); (first | refine wpX_nil ?_ | refine sK ?_ | refine sM fun _ _=>?_ | refine sL fun _ _=>?_ | refine sE fun _ _=>?_); go_wp2_with fail)
    refine (K2.out v1 hS1).mono ?_; rintro _ v2 ⟨rfl,hv⟩
    have hS2:=Chg.then hS1 hv
    clear hv
    have hk2:=Chg.cells hS2 HLF.out (by simp); have hk2':=Chg.cells hS2 HLX.out (by simp)
    clear hk1 hk1'
    go_wp2_with fail
    refine And.intro (by assumption:Chg _ _ _) ?_
    repeat ((with_reducible refine gX ?_); (first | refine wpX_nil ?_ | refine sK ?_ | refine sM fun _ _=>?_ | refine sL fun _ _=>?_ | refine sE fun _ _=>?_); go_wp2_with fail)
    refine (K3.out v2 hS2).mono ?_; rintro _ v3 ⟨rfl,hv⟩
    have hS3:=Chg.then hS2 hv
    clear hv
    have hk3:=Chg.cells hS3 HLF.out (by simp); have hk3':=Chg.cells hS3 HLX.out (by simp)
    clear hk2 hk2'
    go_wp2_with fail
    refine And.intro (by assumption:Chg _ _ _) ?_
    repeat ((with_reducible refine gX ?_); (first | refine wpX_nil ?_ | refine sK ?_ | refine sM fun _ _=>?_ | refine sL fun _ _=>?_ | refine sE fun _ _=>?_); go_wp2_with fail)
    refine (K4.out v3 hS3).mono ?_; rintro _ v4 ⟨u1,rfl,hu1,hv⟩
    have hS4:=Chg.then hS3 hv
    have HU1:=Lib.hid hu1
    obtain ⟨x1,y1,rfl,_⟩:=hu1
    clear hv
    have hk4:=Chg.cells hS4 HLF.out (by simp); have hk4':=Chg.cells hS4 HLX.out (by simp)
    clear hk3 hk3'
    go_wp2_with fail
    refine And.intro (by assumption:Chg _ _ _) ?_
    repeat ((with_reducible refine gX ?_); (first | refine wpX_nil ?_ | refine sK ?_ | refine sM fun _ _=>?_ | refine sL fun _ _=>?_ | refine sE fun _ _=>?_); go_wp2_with fail)
    refine (K5.out v4 hS4).mono ?_; rintro _ v5 ⟨u2,rfl,hu2,hv⟩
    have hS5:=Chg.then hS4 hv
    have HU2:=Lib.hid hu2
    obtain ⟨x2,y2,rfl,_⟩:=hu2
    have HU1':=Lib.hid (HU1.out.kept hv (by simp))
    have K6:=Lib.hid (sameTexts_any HU1'.out HU2.out (by have:=HUS.out; omega))
    clear hv
    have hk5:=Chg.cells hS5 HLF.out (by simp); have hk5':=Chg.cells hS5 HLX.out (by simp)
    clear hk4 hk4'
    go_wp2_with fail
    refine And.intro (by assumption:Chg _ _ _) ?_
    repeat ((with_reducible refine gX ?_); (first | refine wpX_nil ?_ | refine sK ?_ | refine sM fun _ _=>?_ | refine sL fun _ _=>?_ | refine sE fun _ _=>?_); go_wp2_with fail)
    refine (K6.out).mono ?_; rintro _ v6 ⟨rfl,hv⟩
    have hS6:=Chg.then hS5 hv
    clear hv
    have hk6:=Chg.cells hS6 HLF.out (by simp); have hk6':=Chg.cells hS6 HLX.out (by simp)
    clear hk5 hk5'
    go_wp2_with fail
    refine And.intro (by assumption:Chg _ _ _) ?_
    repeat ((with_reducible refine gX ?_); (first | refine wpX_nil ?_ | refine sK ?_ | refine sM fun _ _=>?_ | refine sL fun _ _=>?_ | refine sE fun _ _=>?_); go_wp2_with fail)
    refine (K7.out v6).mono ?_; rintro _ v7 ⟨rfl,hv⟩; subst hv
    go_wp2_with fail
    refine And.intro (by assumption:Chg _ _ _) ?_
    repeat ((with_reducible refine gX ?_); (first | refine wpX_nil ?_ | refine sK ?_ | refine sM fun _ _=>?_ | refine sL fun _ _=>?_ | refine sE fun _ _=>?_); go_wp2_with fail)
    refine (K8.out v7).mono ?_; rintro _ v8 ⟨rfl,hv⟩; subst hv
    go_wp2_with fail
    refine And.intro (by assumption:Chg _ _ _) ?_
    repeat ((with_reducible refine gX ?_); (first | refine wpX_nil ?_ | refine sK ?_ | refine sM fun _ _=>?_ | refine sL fun _ _=>?_ | refine sE fun _ _=>?_); go_wp2_with fail)
    refine (K9.out v8 hS6).mono ?_; rintro _ v9 ⟨rfl,hv⟩
    have hS9:=Chg.then hS6 hv
    clear hv
    have hk9:=Chg.cells hS9 HLF.out (by simp); have hk9':=Chg.cells hS9 HLX.out (by simp)
    go_wp2_with fail
    refine And.intro (by assumption:Chg _ _ _) ?_
    repeat ((with_reducible refine gX ?_); (first | refine wpX_nil ?_ | refine sK ?_ | refine sM fun _ _=>?_ | refine sL fun _ _=>?_ | refine sE fun _ _=>?_); go_wp2_with fail)
    refine (K10.out v9 hS9).mono ?_; rintro _ v10 ⟨rfl,hv⟩
    have hS10:=Chg.then hS9 hv
    clear hv
    go_wp2_with fail
    refine And.intro (by assumption:Chg _ _ _) ?_
    repeat ((with_reducible refine gX ?_); (first | refine wpX_nil ?_ | refine sK ?_ | refine sM fun _ _=>?_ | refine sL fun _ _=>?_ | refine sE fun _ _=>?_); go_wp2_with fail)
    have HC10:=Lib.hid hS10
    have HSA4:=Lib.hid (HSAE.out.kept hS10 (by simp)); have HSB4:=Lib.hid (HSBE.out.kept hS10 (by simp)); have HNM4:=Lib.hid (HNE.out v10 hS10)
    clear m0 m1 m2 m3 m4 n0 n1' n2' n3' n4' hS0 hS1 hS2 hS3 hS4 hS5 hS6 hS9 hS10
    go_wp2_with fail
    go_loopw [14,15,16] (fun i _ _ wr=>∃ k:Nat,k≤names.length∧i=num k∧Chg [] v10 wr) (fun i _ _ _=>names.length - (intOf i).toNat)
    case atStart=>exact ⟨0,Nat.zero_le _,rfl,Chg.refl _ _⟩
    case round=>
     obtain ⟨q,hq,rfl,hc⟩:=hrel
     have HCR:=Lib.hid hc; clear hc
     by_cases hql : q < names.length
     ·obtain ⟨n,hn⟩ : ∃ n,names[q]?=some n:=⟨names[q],List.getElem?_eq_getElem hql⟩
      obtain ⟨wG,hwG⟩ : ∃ x,x=wr.drew:=⟨_,rfl⟩
      have hcG:Chg [] v10 wG:=by rw [hwG]; exact HCR.out.then (Chg.refl [] wr).drew
      obtain ⟨a',c',he,_,hrow⟩:=HNM4.out.kept hcG (by simp)
      cases he
      obtain ⟨bb,o,rfl,hcell⟩:=hrow.at_ (by simp; omega)
      have hcl:=hcell q (str n) (by rw [List.getElem?_map,hn]; rfl)
      have HLN:=Lib.hid (show bb < wG.heap.size from lt_of_cell hcl)
      have J1:=Lib.hid (show ∀ w',Chg [] wG w'→Calls Tryz.prog 35 #[.slice xb L.length yb,str n] w' (fun e w2=>e = .returned (num (findI L n))∧Chg [] w' w2) from fun w' hc=>find_any L (by omega) n _ _ w' (HSB4.out.kept (hcG.then hc) (by simp)))
      have J2:=Lib.hid (show ∀ w',Chg [] wG w'→Calls Tryz.prog 36 #[.slice xa L.length ya,str n] w' (fun e w2=>e = .returned (num (findI L n))∧Chg [] w' w2) from fun w' hc=>rfind_any L (by omega) n _ _ w' (HSA4.out.kept (hcG.then hc) (by simp)))
      have HCG:=Lib.hid hcG
      obtain ⟨fi,hfi⟩ : ∃ x,x=findI L n:=⟨_,rfl⟩
      rw [← hfi] at J1 J2
      clear hrow hcell hn hfi hcG
      go_wp2_with fail
      refine wp_region_C [] rfl (by kernel_rfl) ?_
      rw [← hwG]
      clear hwG
      have hS0:Chg [] wG wG:=Chg.refl _ _
      repeat ((with_reducible refine gX ?_); (first | refine wpX_nil ?_ | refine sK ?_ | refine sM fun _ _=>?_ | refine sL fun _ _=>?_ | refine sE fun _ _=>?_); go_wp2_with fail)
      refine (J1.out wG hS0).mono ?_; rintro _ u1 ⟨rfl,hv⟩
      have hS1:=Chg.then hS0 hv; have hk1:=Chg.cells hS1 HLN.out (by simp)
      clear hv
      go_wp2_with fail
      refine And.intro (by assumption:Chg _ _ _) ?_
      repeat ((with_reducible refine gX ?_); (first | refine wpX_nil ?_ | refine sK ?_ | refine sM fun _ _=>?_ | refine sL fun _ _=>?_ | refine sE fun _ _=>?_); go_wp2_with fail)
      refine (J2.out u1 hS1).mono ?_; rintro _ u2 ⟨rfl,hv⟩
      have hS2:=Chg.then hS1 hv
      have HC2:=Lib.hid (HCG.out.then hS2)
      clear hv hk1
      go_wp2_with fail
      refine And.intro (by assumption:Chg _ _ _) ?_
      repeat ((with_reducible refine gX ?_); (first | refine wpX_nil ?_ | refine sK ?_ | refine sM fun _ _=>?_ | refine sL fun _ _=>?_ | refine sE fun _ _=>?_); go_wp2_with fail)
      clear hS0 hS1 hS2 hcl
      go_wp2_with fail
      go_roundw
      case rel=>exact ⟨q + 1,by omega,by go_num,HC2.out⟩
      case measure=>simp [intOf]; omega
     ·have HEND:=Lib.hid (HCE2.out.then (HC10.out.then HCR.out))
      go_wp2_with fail
      go_ret
      exact ⟨rfl,HEND.out⟩
end Go.Proofs.YtojkkgghndeimaaGreatDoor
