/- Some texts in one. -/
import Derived.Test.YtojkkgghndeimaaGreatDoorO31
import Derived.Test.YtojkkgghndeimaaGreatDoorO33
import Derived.Test.YtojkkgghndeimaaGreatDoorO34
namespace Go.Mq.Plan
open Go Go.RowKit Go.Mq Go.Mq.Tree
theorem modO {w:World} {F:Nat→Prop} {M:Mod} {v:Value} (h:ModAt w F M v) : ∃ a1 c1 a2 c2 a3 c3 a4 c4,v = .agg #[str M.name,.slice a1 M.imports.length c1,.slice a2 M.vars.length c2,.slice a3 M.procs.length c3,.slice a4 M.body.len c4]:=by
 obtain ⟨_,_,_,_,rfl,⟨_,_,rfl,_⟩,⟨_,_,rfl,_⟩,⟨_,_,_,rfl,_⟩,⟨_,_,_,rfl,_⟩⟩:=h
 exact ⟨_,_,_,_,_,_,_,_,rfl⟩
theorem order_few {names:List Nm} {there:Nm→Bool} {imp:Nm→List Nm} {o:List Nm} (h : orderL names there imp names.length []=some o) : o.length≤names.length:=by
 have:=(order_some h).1
 simp at this
 omega
end Go.Mq.Plan
namespace Go.Proofs.YtojkkgghndeimaaGreatDoor
open Go Go.RowKit Go.Mq Go.Mq.Tree Go.Mq.Ref Go.Mq.Plan
set_option maxRecDepth 100000
set_option maxHeartbeats 16000000
theorem orders_any (was now chd:List Nm) (hw63 : was.length≤9223372036854775807) (hn63 : now.length≤9223372036854775807) (hc63 : chd.length≤9223372036854775807) (hwz : ∀ n∈was,n.length≤9223372036854775807) (hnz : ∀ n∈now,n.length≤9223372036854775807)
  (F1 F2 F3:Nat→Prop) (p1 p2 p3:Option Addr) (q1 q2 q3:Nat) (w:World) (hR:RLaid w w.heap.size) (hE:ErrLaid w) (h1:NamesAt w F1 was (.slice p1 was.length q1)) (h2:NamesAt w F2 now (.slice p2 now.length q2)) (h3:NamesAt w F3 chd (.slice p3 chd.length q3)) :
  Calls Tryz.prog 6 #[.slice p1 was.length q1,.slice p2 now.length q2,.slice p3 chd.length q3] w fun e w'=>e = .returned (.bool true)∧Chg [] w w':=by
 have hmm:=@run_makeMap Tryz.prog
 have HR:=Lib.hid hR; have HE:=Lib.hid hE; have H1:=Lib.hid h1; have H2:=Lib.hid h2; have H3:=Lib.hid h3; have HWZ:=Lib.hid hwz; have HNZ:=Lib.hid hnz
 clear hR hE h1 h2 h3 hwz hnz
 by_cases hbig : 8 < was.length∨8 < now.length∨8 < chd.length
 ·go_enter Tryz.func6,Tryz.ntmps6
  by_cases h1 : 8 < was.length
  ·have hd : decide ((8:Int) < (was.length:Int))=true:=by simp; omega
   clear hbig
   go_wp2_with fail
   go_ret
   exact ⟨rfl,Chg.refl _ _⟩
  ·have hd : decide ((8:Int) < (was.length:Int))=false:=by simp; omega
   by_cases h2 : 8 < now.length
   ·have hd2 : decide ((8:Int) < (now.length:Int))=true:=by simp; omega
    clear hbig
    go_wp2_with fail
    go_ret
    exact ⟨rfl,Chg.refl _ _⟩
   ·have hd2 : decide ((8:Int) < (now.length:Int))=false:=by simp; omega
    have hd3 : decide ((8:Int) < (chd.length:Int))=true:=by simp; omega
    clear hbig
    go_wp2_with fail
    go_ret
    exact ⟨rfl,Chg.refl _ _⟩
 have hd1 : decide ((8:Int) < (was.length:Int))=false:=by simp; omega
 have hd2 : decide ((8:Int) < (now.length:Int))=false:=by simp; omega
 have hd3 : decide ((8:Int) < (chd.length:Int))=false:=by simp; omega
 have hw8 : was.length≤8:=by omega
 have hn8 : now.length≤8:=by omega
 have hc8 : chd.length≤8:=by omega
 obtain ⟨wA,hwA⟩ : ∃ x,w.alloc (.map #[] 0)=x:=⟨_,rfl⟩
 obtain ⟨wB,hwB⟩ : ∃ x,wA.alloc (.map #[] 0)=x:=⟨_,rfl⟩
 have hcA:Chg [] w wA:=by rw [← hwA]; exact (Chg.refl _ _).alloc _
 have hcB:Chg [] wA wB:=by rw [← hwB]; exact (Chg.refl _ _).alloc _
 have hsA : wA.heap.size=w.heap.size + 1:=by rw [← hwA]; simp
 have hsB : wB.heap.size=w.heap.size + 2:=by rw [← hwB]; simp [hsA]
 have hga:Gathered wA w.heap.size wA.heap.size 0 (fun _=>none) []:=by rw [← hwA]; exact Gathered.made w _
 have HGA:=Lib.hid (hga.kept hcB)
 have HGB:=Lib.hid (show Gathered wB wA.heap.size wA.heap.size 0 (fun _=>none) [] by rw [← hwB]; exact Gathered.made wA _)
 have HCB:=Lib.hid (hcA.then hcB); have HSZ:=Lib.hid (And.intro hsA hsB)
 clear hbig hcA hcB hga hsA hsB
 go_enter Tryz.func6,Tryz.ntmps6
 go_wp2_with fail
 clear hwA hwB
 go_loopw [9,10,11,12,13] (fun i _ _ _ _ wr=>∃ (k:Nat) (mfa mfb:Nm→Option Mod) (ea eb:List (List UInt8 × Value)),i=num k∧k≤was.length + now.length∧Gathered wr w.heap.size wA.heap.size k mfa ea∧Gathered wr wA.heap.size wA.heap.size k mfb eb∧(∀ n m,mfb n=some m→n≠[])∧Chg [] w wr) (fun i _ _ _ _ _=>was.length + now.length - (intOf i).toNat)
 case atStart=>exact ⟨0,_,_,_,_,rfl,Nat.zero_le _,HGA.out,HGB.out,fun n m h=>(by cases h),HCB.out⟩
 case round=>
  obtain ⟨k,mfa,mfb,ea,eb,rfl,hk,hga,hgb,hnn,hc⟩:=hrel
  have HGA:=Lib.hid hga; have HGB:=Lib.hid hgb; have HC:=Lib.hid hc; have HNN:=Lib.hid hnn
  clear hga hgb hc hnn
  obtain ⟨wO,hwO⟩ : ∃ x,x=wr:=⟨_,rfl⟩
  subst hwO
  by_cases hlt : k < was.length + now.length
  ·have hltd : decide ((k:Int) < (was.length:Int) + (now.length:Int))=true:=by simp; omega
   go_upto_if 47 with fail
   go_cut [10,11] (fun s10 s11 wx=>∃ (t:Nm) (bm:Nat),s10=str t∧t.length≤9223372036854775807∧s11 = .map (some bm)∧(bm=w.heap.size∨bm=wA.heap.size)∧wx=wO)
   case first=>
    by_cases hkw : k < was.length
    ·have hd4 : decide ((k:Int) < (was.length:Int))=true:=by simp; omega
     obtain ⟨n,hn⟩ : ∃ n,was[k]?=some n:=⟨was[k],List.getElem?_eq_getElem hkw⟩
     obtain ⟨a',c',he,_,hrow⟩:=H1.out
     cases he
     obtain ⟨bb,o,rfl,hcell⟩:=(hrow.kept (S:=[]) HC.out (by simp)).at_ (by simp; omega)
     have hcl:=hcell k (str n) (by rw [List.getElem?_map,hn]; rfl)
     have hnz:=HWZ.out n (List.mem_of_getElem? hn)
     clear hrow hcell hn
     go_wp2_with fail
     go_meet
     exact ⟨n,w.heap.size,rfl,hnz,rfl,.inl rfl,rfl⟩
    ·have hd4 : decide ((k:Int) < (was.length:Int))=false:=by simp; omega
     obtain ⟨j,hj⟩ : ∃ j,k=was.length + j:=⟨k - was.length,by omega⟩
     have hjl : j < now.length:=by omega
     obtain ⟨n,hn⟩ : ∃ n,now[j]?=some n:=⟨now[j],List.getElem?_eq_getElem hjl⟩
     obtain ⟨a',c',he,_,hrow⟩:=H2.out
     cases he
     obtain ⟨bb,o,rfl,hcell⟩:=(hrow.kept (S:=[]) HC.out (by simp)).at_ (by simp; omega)
     have hcl:=hcell j (str n) (by rw [List.getElem?_map,hn]; rfl)
     have hnz:=HNZ.out n (List.mem_of_getElem? hn)
     have hsub:IntKind.i64.wrap ((k:Int) - (was.length:Int))=(j:Int):=by simp only [IntKind.wrap,IntKind.bits,IntKind.signed]; simp; omega
     have hsub2 : wrap64 ((k:Int) - (was.length:Int))=(j:Int):=by simp [wrap64]; omega
     clear hrow hcell hn
     go_wp2_with fail
     go_meet
     exact ⟨n,wA.heap.size,rfl,hnz,rfl,.inr rfl,rfl⟩
   case rest=>
    obtain ⟨t,bm,rfl,htz,rfl,hbm,hwx⟩:=hcut
    subst hwx
    by_cases h9 : 900 < t.length
    ·have hd : decide ((900:Int) < (t.length:Int))=true:=by simp; omega
     go_wp2_with fail
     go_ret
     exact ⟨rfl,HC.out⟩
    ·have hd : decide ((900:Int) < (t.length:Int))=false:=by simp; omega
     have H9:=Lib.hid h9; have HBM:=Lib.hid hbm
     clear h9 htz hbm
     go_wp2_with fail
     refine (rparse_any t (by have:=H9.out; omega) wc w.heap.size (HR.out.kept HC.out (by simp))).mono ?_; intro e wP he
     obtain ⟨hcA,v,rfl,hmA⟩:=rout he
     obtain ⟨M,hM⟩ : ∃ x,x=outM (parse t):=⟨_,rfl⟩
     obtain ⟨en,hen⟩ : ∃ x,x=outE (parse t):=⟨_,rfl⟩
     obtain ⟨pp,hpp⟩ : ∃ x,x=outP (parse t):=⟨_,rfl⟩
     rw [← hM] at hmA
     rw [← hen,← hpp]
     have HPM:=Lib.hid (And.intro hM (And.intro hen hpp)); clear hM hen hpp
     obtain ⟨a1,c1,a2,c2,a3,c3,a4,c4,rfl⟩:=modO hmA
     obtain ⟨wQ,hwQ⟩ : ∃ x,(wP.alloc (.cells #[str [],nils,nils,nils,nils] 31)).alloc (.cells #[num 0,num 0] 34)=x:=⟨_,rfl⟩
     have hcB:Chg [] wP wQ:=hwQ ▸ ((Chg.refl _ _).alloc _).alloc _
     have hbm:Blk wQ wP.heap.size #[str [],nils,nils,nils,nils] 31:=hwQ ▸ (Blk.new wP _ _).kept ((Chg.refl [] _).alloc _) (by simp)
     have hbf:Blk wQ (wP.heap.size + 1) #[num 0,num 0] 34:=by
      have:=Blk.new (wP.alloc (.cells #[str [],nils,nils,nils,nils] 31)) #[num 0,num 0] 34
      rw [show (wP.alloc (.cells #[str [],nils,nils,nils,nils] 31)).heap.size=wP.heap.size + 1 by simp,hwQ] at this; exact this
     obtain ⟨m0,m1,m2,m3,m4⟩:=hbm.five
     have mf0:=hbm.frozen 0; have mf1:=hbm.frozen 1; have mf2:=hbm.frozen 2; have mf3:=hbm.frozen 3; have mf4:=hbm.frozen 4
     obtain ⟨wX,hwX,hcX,hbX⟩:=set5 (str M.name) (.slice a1 M.imports.length c1) (.slice a2 M.vars.length c2) (.slice a3 M.procs.length c3) (.slice a4 M.body.len c4) hbm
     have hfX:=hbf.kept hcX (by simp)
     have k0:=hfX.cell 0 (num 0) rfl; have k1:=hfX.cell 1 (num 0) rfl; have kf0:=hfX.frozen 0; have kf1:=hfX.frozen 1
     obtain ⟨wY,hwY,hcY,hbY⟩:=set2 (num en) (num pp) hfX
     have hbXY:=hbX.kept hcY (by simp)
     have hcAY:Chg [] wP wY:=(hcB.trans hcX (fun x hx=>.inr (by simp at hx; omega))).trans hcY (fun x hx=>.inr (by simp at hx; omega))
     have HCA:=Lib.hid hcA; have HCAY:=Lib.hid hcAY; have HMA:=Lib.hid hmA; have HBX:=Lib.hid hbXY; have HBY:=Lib.hid hbY
     clear he hcA hmA hcB hbm hbf hcX hbX hfX hcY hbY hbXY hcAY
     have HCY:=Lib.hid (HC.out.then (HCA.out.then HCAY.out))
     have hRY:=HR.out.kept HCY.out (by simp)
     have f0:=hRY.fine0; have f1:=hRY.fine1
     have y0:=HBY.out.cell 0 _ rfl; have y1:=HBY.out.cell 1 _ rfl
     have HGA2:=Lib.hid (HGA.out.kept (HCA.out.then HCAY.out)); have HGB2:=Lib.hid (HGB.out.kept (HCA.out.then HCAY.out))
     clear hRY
     cases hr : parse t with
     | bad e p=>
      obtain rfl : en=(e:Int):=by rw [HPM.out.2.1,hr]; rfl
      obtain rfl : pp=(p:Int):=by rw [HPM.out.2.2,hr]; rfl
      have hp1 : ((p:Int) == -1)=false:=by simp <;> omega
      clear hr
      go_wp2_with fail
      exact ⟨⟨k + 1,mfa,mfb,ea,eb,by go_num,by omega,HGA2.out.more,HGB2.out.more,HNN.out,HCY.out⟩,by simp [intOf]; omega⟩
     | ok m=>
      obtain rfl : en=0:=by rw [HPM.out.2.1,hr]; rfl
      obtain rfl : pp = -1:=by rw [HPM.out.2.2,hr]; rfl
      obtain rfl:M=m:=by rw [HPM.out.1,hr]; rfl
      have HPR:=Lib.hid hr
      have HMY:=Lib.hid (show ModAt wY (fun x=>wA.heap.size < x∧x < wY.heap.size) M _ from (HMA.out.kept HCAY.out (by simp)).mono fun x hx=>⟨by have:=hx.1; have:=HGB.out.at_.1.lt; omega,by have:=hx.2; have:=HCAY.out.size; omega⟩)
      obtain ⟨n0,n1,n2,n3,n4⟩:=HBX.out.five
      clear hr
      have hbm:=HBM.out
      rcases hbm with rfl | rfl
      ·obtain ⟨wU,es',hmu,HGU,HCU⟩:=gath_add HGA2.out (by have:=HSZ.out; omega) (by omega) (by have:=H9.out; omega) HPR.out _ HMY.out
       have HGBU:=Lib.hid (HGB2.out.more.aside HCU.out (by have:=HSZ.out; omega) (by have:=HSZ.out; omega))
       have HCZ:=Lib.hid (show Chg [] w wU from HCY.out.trans HCU.out (fun x hx=>.inr (by simp at hx; omega)))
       go_wp2_with fail
       exact ⟨⟨k + 1,_,mfb,_,eb,by go_num,by omega,HGU.out,HGBU.out,HNN.out,HCZ.out⟩,by simp [intOf]; omega⟩
      ·obtain ⟨wU,es',hmu,HGU,HCU⟩:=gath_add HGB2.out (Nat.le_refl _) (by omega) (by have:=H9.out; omega) HPR.out _ HMY.out
       have HGAU:=Lib.hid (HGA2.out.more.aside HCU.out (by have:=HSZ.out; omega) (Nat.le_refl _))
       have HCZ:=Lib.hid (show Chg [] w wU from HCY.out.trans HCU.out (fun x hx=>.inr (by have:=HSZ.out; simp at hx; omega)))
       have HNU:=Lib.hid (show ∀ n m,(if n=M.name then some M else mfb n)=some m→n≠[] from fun n m h=>by
        by_cases hn : n=M.name
        ·rw [hn]
         have:=(parse_sp HPR.out).1.name.1
         intro h0
         rw [h0] at this
         exact absurd this (by simp [IsWord])
        ·rw [if_neg hn] at h; exact HNN.out n m h)
       go_wp2_with fail
       exact ⟨⟨k + 1,mfa,_,ea,_,by go_num,by omega,HGAU.out,HGU.out,HNU.out,HCZ.out⟩,by simp [intOf]; omega⟩
  ·have hltd : decide ((k:Int) < (was.length:Int) + (now.length:Int))=false:=by simp; omega
   have HMB:=Lib.hid HGB.out.at_
   have HRO:=Lib.hid (rorder_any wA.heap.size _ mfb eb wO (fun x hx=>hx.2) (fun n hn=>HGB.out.names n hn HNN.out) HGB.out.at_)
   go_wp2_with fail
   refine HRO.out.mono ?_; rintro e w2 ⟨hc2,names,hnm,hro⟩
   have HG2:=Lib.hid (HGB.out.kept hc2); have HGA2:=Lib.hid (HGA.out.kept hc2)
   have HNM:=Lib.hid hnm; have HC2:=Lib.hid (HC.out.then hc2)
   have HPO:=Lib.hid (order_any wA.heap.size _ mfb eb w2 (fun x hx=>hx.2) HG2.out.at_)
   obtain ⟨tot,htot⟩ : ∃ t,t=orderL names (fun i=>(mfb i).isSome) (impOf mfb) names.length []:=⟨_,rfl⟩
   rw [← htot] at hro
   have HTT:=Lib.hid htot
   clear hc2 hnm htot hlt hltd
   cases tot with
   | none=>
    simp only at hro
    subst hro
    go_wp2_with fail
    refine HPO.out.mono ?_; rintro e w3 ⟨hc3,names2,hnm2,hpo⟩
    obtain rfl:=named_same HNM.out hnm2
    rw [← HTT.out] at hpo
    simp only at hpo
    subst hpo
    have HC3:=Lib.hid (HC2.out.then hc3); have HG3:=Lib.hid (HG2.out.kept hc3); have HGA3:=Lib.hid (HGA2.out.kept hc3)
    have HV:=Lib.hid (show NamesAt w3 (New w2 w3) ([] : List Nm) nils from NamesAt.nil); have HV':=Lib.hid (show NamesAt w3 (New w2 w3) ([] : List Nm) nils from NamesAt.nil)
    clear hc3 hnm2
    go_upto_region 21 with fail
    have HE3:=Lib.hid (HE.out.kept HC3.out (by simp))
    have hbare:=bare_any 11 11 w3 HE3.out
    rw [errV,if_neg (by decide)] at hbare
    simp only [decide_true] at hbare
    have HBR:=Lib.hid hbare
    have HLEN:=Lib.hid (show ([] : List Nm).length≤1000000 by simp)
    clear hbare
    go_wp2_with fail
    refine HBR.out.mono ?_; rintro _ w4 ⟨rfl,hc4⟩
    have HC4:=Lib.hid (HC3.out.then hc4)
    have HST:=Lib.hid (sameTexts_any (HV'.out.kept hc4 (by simp)) (HV.out.kept hc4 (by simp)) HLEN.out)
    have HG4:=Lib.hid (HG3.out.kept hc4); have HGA4:=Lib.hid (HGA3.out.kept hc4)
    clear hc4
    go_wp2_with fail
    refine HST.out.mono ?_; rintro _ w5 ⟨rfl,hc5⟩
    have HC5:=Lib.hid (HC4.out.then hc5)
    have HG5:=Lib.hid (HG4.out.kept hc5); have HGA5:=Lib.hid (HGA4.out.kept hc5)
    obtain ⟨wK,hwK⟩ : ∃ y,w5.alloc (.cells #[] 9)=y:=⟨_,rfl⟩
    have hcK:Chg [] w5 wK:=by rw [← hwK]; exact (Chg.refl _ _).alloc _
    have HOW:=Lib.hid (show wK.ownsRow 0 9 1 (.slice (some ⟨w5.heap.size,0,none⟩) 0 0) 0 [] by rw [← hwK]; exact ⟨rfl,.inr ⟨w5.heap.size,0,#[],rfl,Nat.zero_le _,heap_alloc_new w5 _,Nat.le_refl _,by decide,rfl,rfl⟩⟩)
    have HCK:=Lib.hid (HC5.out.then hcK); have HGK:=Lib.hid (HG5.out.kept hcK); have HGAK:=Lib.hid (HGA5.out.kept hcK)
    have HSK:=Lib.hid hcK.size
    have HSK5:=Lib.hid (show w5.heap.size < wK.heap.size by rw [← hwK]; simp)
    obtain ⟨_,_,he3,_,hrow3⟩:=H3.out
    cases he3
    have HA3:=Lib.hid (show At wK p3 (chd.map str) from (hrow3.kept (S:=[]) HCK.out (by simp)).at_)
    clear hc5 hcK hrow3
    go_wp2_with (at_builtin; go_must (refine wpL_append_when (by exact rfl) _ _ 25 rfl 9 _ 1 16 infoStrC Tryz.underlying25 rfl (by decide) (.slice (some ⟨w5.heap.size,0,none⟩) 0 0) 0 [] rfl HOW.out p3 chd.length q3 (chd.map str) rfl (by simp) HA3.out (strs_one chd) (by omega) (by unfold maxLen; omega) ?_))
    intro v6 w6 ho6 hc6 hm6
    have hcw6:Chg [] w5 w6:=(show Chg [] w5 wK by rw [← hwK]; exact (Chg.refl _ _).alloc _).trans hc6 (fun x hx=>.inr (by simp [blk] at hx; omega))
    have hO6 : w6.ownsRow 0 9 1 v6 chd.length (chd.map str):=by simpa using ho6
    obtain ⟨ra,rc,rfl,hrc,hrow6⟩:=Row.of_owns hO6 (F:=fun _=>True) (fun _ _=>trivial)
    have HN6:=Lib.hid (show NamesAt w6 (fun _=>True) chd (.slice ra chd.length rc) from ⟨ra,rc,rfl,hrc,hrow6⟩)
    have HC6:=Lib.hid (HC5.out.then hcw6); have HG6:=Lib.hid (HG5.out.kept hcw6); have HGA6:=Lib.hid (HGA5.out.kept hcw6)
    have HPS:=Lib.hid (stale_run wA.heap.size (some w.heap.size) _ _ mfa mfb eb chd _ HGA6.out.good HG6.out.good (by omega) w6 w.heap.size (HR.out.laid.kept HC6.out (by simp)) (fun x hx=>hx.2) HG6.out.at_ (.inr ⟨_,ea,rfl,HGA6.out.at_⟩) HN6.out)
    clear ho6 hc6 hm6 hcw6 hO6 hrow6 hwK hrc
    go_wp2_with fail
    refine HPS.out.mono ?_; rintro e w7 ⟨hc7,names7,v7,hnm7,rfl,hv7⟩
    obtain rfl:=named_same HNM.out hnm7
    have HV7:=Lib.hid hv7
    obtain ⟨va7,vc7,rfl,_,_⟩:=hv7
    have HC7:=Lib.hid (HC6.out.then hc7); have HG7:=Lib.hid (HG6.out.kept hc7); have HGA7:=Lib.hid (HGA6.out.kept hc7)
    have HRS:=Lib.hid (rstale_any wA.heap.size (some w.heap.size) _ F3 mfa mfb eb chd (.slice p3 chd.length q3) HGA7.out.good HG7.out.good HG7.out.well (by omega) w7 w.heap.size (HR.out.laid.kept HC7.out (by simp)) (fun x hx=>hx.2) HG7.out.at_ (.inr ⟨_,ea,rfl,HGA7.out.at_⟩) (H3.out.kept HC7.out (by simp)))
    clear hc7 hnm7
    go_wp2_with fail
    refine HRS.out.mono ?_; rintro e w8 ⟨hc8',names8,v8,hnm8,rfl,hv8⟩
    obtain rfl:=named_same HNM.out hnm8
    have HV8:=Lib.hid hv8
    obtain ⟨va8,vc8,rfl,_,_⟩:=hv8
    have HC8:=Lib.hid (HC7.out.then hc8')
    have hfl:=List.length_filter_le (anew mfa mfb chd) names
    have hnl:=HNM.out.perm'.length_eq
    rw [List.length_map] at hnl
    have hef:=HG7.out.few
    have HST2:=Lib.hid (sameTexts_any (HV7.out.kept hc8' (by simp)) HV8.out (by omega))
    clear hc8' hnm8 hfl hnl hef
    go_wp2_with fail
    refine HST2.out.mono ?_; rintro _ w9 ⟨rfl,hc9⟩
    have HC9:=Lib.hid (HC8.out.then hc9)
    clear hc9
    go_wp2_with fail
    go_ret
    exact ⟨rfl,HC9.out⟩
   | some o=>
    obtain ⟨v,rfl,hv⟩:=hro
    have HV0:=Lib.hid hv
    obtain ⟨va,vc,rfl,_,_⟩:=hv
    go_wp2_with fail
    refine HPO.out.mono ?_; rintro e w3 ⟨hc3,names2,hnm2,hpo⟩
    obtain rfl:=named_same HNM.out hnm2
    rw [← HTT.out] at hpo
    obtain ⟨v',rfl,hv'⟩:=hpo
    have HV':=Lib.hid hv'
    obtain ⟨va',vc',rfl,_,_⟩:=hv'
    have HC3:=Lib.hid (HC2.out.then hc3); have HG3:=Lib.hid (HG2.out.kept hc3); have HGA3:=Lib.hid (HGA2.out.kept hc3)
    have HV:=Lib.hid (HV0.out.kept hc3 (by simp))
    clear hc3 hnm2
    go_upto_region 21 with fail
    have HE3:=Lib.hid (HE.out.kept HC3.out (by simp))
    have hbare:=bare_any 0 0 w3 HE3.out
    rw [errV,if_pos rfl] at hbare
    simp only [decide_true] at hbare
    have HBR:=Lib.hid hbare
    have HLEN:=Lib.hid (show (o:List Nm).length≤1000000 by have:=order_few HTT.out.symm; have h2:=HNM.out.perm'.length_eq; rw [List.length_map] at h2; have:=HG3.out.few; omega)
    clear hbare
    go_wp2_with fail
    refine HBR.out.mono ?_; rintro _ w4 ⟨rfl,hc4⟩
    have HC4:=Lib.hid (HC3.out.then hc4)
    have HST:=Lib.hid (sameTexts_any (HV'.out.kept hc4 (by simp)) (HV.out.kept hc4 (by simp)) HLEN.out)
    have HG4:=Lib.hid (HG3.out.kept hc4); have HGA4:=Lib.hid (HGA3.out.kept hc4)
    clear hc4
    go_wp2_with fail
    refine HST.out.mono ?_; rintro _ w5 ⟨rfl,hc5⟩
    have HC5:=Lib.hid (HC4.out.then hc5)
    have HG5:=Lib.hid (HG4.out.kept hc5); have HGA5:=Lib.hid (HGA4.out.kept hc5)
    obtain ⟨wK,hwK⟩ : ∃ y,w5.alloc (.cells #[] 9)=y:=⟨_,rfl⟩
    have hcK:Chg [] w5 wK:=by rw [← hwK]; exact (Chg.refl _ _).alloc _
    have HOW:=Lib.hid (show wK.ownsRow 0 9 1 (.slice (some ⟨w5.heap.size,0,none⟩) 0 0) 0 [] by rw [← hwK]; exact ⟨rfl,.inr ⟨w5.heap.size,0,#[],rfl,Nat.zero_le _,heap_alloc_new w5 _,Nat.le_refl _,by decide,rfl,rfl⟩⟩)
    have HCK:=Lib.hid (HC5.out.then hcK); have HGK:=Lib.hid (HG5.out.kept hcK); have HGAK:=Lib.hid (HGA5.out.kept hcK)
    have HSK:=Lib.hid hcK.size
    have HSK5:=Lib.hid (show w5.heap.size < wK.heap.size by rw [← hwK]; simp)
    obtain ⟨_,_,he3,_,hrow3⟩:=H3.out
    cases he3
    have HA3:=Lib.hid (show At wK p3 (chd.map str) from (hrow3.kept (S:=[]) HCK.out (by simp)).at_)
    clear hc5 hcK hrow3
    go_wp2_with (at_builtin; go_must (refine wpL_append_when (by exact rfl) _ _ 25 rfl 9 _ 1 16 infoStrC Tryz.underlying25 rfl (by decide) (.slice (some ⟨w5.heap.size,0,none⟩) 0 0) 0 [] rfl HOW.out p3 chd.length q3 (chd.map str) rfl (by simp) HA3.out (strs_one chd) (by omega) (by unfold maxLen; omega) ?_))
    intro v6 w6 ho6 hc6 hm6
    have hcw6:Chg [] w5 w6:=(show Chg [] w5 wK by rw [← hwK]; exact (Chg.refl _ _).alloc _).trans hc6 (fun x hx=>.inr (by simp [blk] at hx; omega))
    have hO6 : w6.ownsRow 0 9 1 v6 chd.length (chd.map str):=by simpa using ho6
    obtain ⟨ra,rc,rfl,hrc,hrow6⟩:=Row.of_owns hO6 (F:=fun _=>True) (fun _ _=>trivial)
    have HN6:=Lib.hid (show NamesAt w6 (fun _=>True) chd (.slice ra chd.length rc) from ⟨ra,rc,rfl,hrc,hrow6⟩)
    have HC6:=Lib.hid (HC5.out.then hcw6); have HG6:=Lib.hid (HG5.out.kept hcw6); have HGA6:=Lib.hid (HGA5.out.kept hcw6)
    have HPS:=Lib.hid (stale_run wA.heap.size (some w.heap.size) _ _ mfa mfb eb chd _ HGA6.out.good HG6.out.good (by omega) w6 w.heap.size (HR.out.laid.kept HC6.out (by simp)) (fun x hx=>hx.2) HG6.out.at_ (.inr ⟨_,ea,rfl,HGA6.out.at_⟩) HN6.out)
    clear ho6 hc6 hm6 hcw6 hO6 hrow6 hwK hrc
    go_wp2_with fail
    refine HPS.out.mono ?_; rintro e w7 ⟨hc7,names7,v7,hnm7,rfl,hv7⟩
    obtain rfl:=named_same HNM.out hnm7
    have HV7:=Lib.hid hv7
    obtain ⟨va7,vc7,rfl,_,_⟩:=hv7
    have HC7:=Lib.hid (HC6.out.then hc7); have HG7:=Lib.hid (HG6.out.kept hc7); have HGA7:=Lib.hid (HGA6.out.kept hc7)
    have HRS:=Lib.hid (rstale_any wA.heap.size (some w.heap.size) _ F3 mfa mfb eb chd (.slice p3 chd.length q3) HGA7.out.good HG7.out.good HG7.out.well (by omega) w7 w.heap.size (HR.out.laid.kept HC7.out (by simp)) (fun x hx=>hx.2) HG7.out.at_ (.inr ⟨_,ea,rfl,HGA7.out.at_⟩) (H3.out.kept HC7.out (by simp)))
    clear hc7 hnm7
    go_wp2_with fail
    refine HRS.out.mono ?_; rintro e w8 ⟨hc8',names8,v8,hnm8,rfl,hv8⟩
    obtain rfl:=named_same HNM.out hnm8
    have HV8:=Lib.hid hv8
    obtain ⟨va8,vc8,rfl,_,_⟩:=hv8
    have HC8:=Lib.hid (HC7.out.then hc8')
    have hfl:=List.length_filter_le (anew mfa mfb chd) names
    have hnl:=HNM.out.perm'.length_eq
    rw [List.length_map] at hnl
    have hef:=HG7.out.few
    have HST2:=Lib.hid (sameTexts_any (HV7.out.kept hc8' (by simp)) HV8.out (by omega))
    clear hc8' hnm8 hfl hnl hef
    go_wp2_with fail
    refine HST2.out.mono ?_; rintro _ w9 ⟨rfl,hc9⟩
    have HC9:=Lib.hid (HC8.out.then hc9)
    clear hc9
    go_wp2_with fail
    go_ret
    exact ⟨rfl,HC9.out⟩
end Go.Proofs.YtojkkgghndeimaaGreatDoor
