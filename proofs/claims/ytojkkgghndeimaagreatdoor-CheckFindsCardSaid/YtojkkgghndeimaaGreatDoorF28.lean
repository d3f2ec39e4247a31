/- Some texts in one. -/
import Derived.Test.YtojkkgghndeimaaGreatDoorF15
import Derived.Test.YtojkkgghndeimaaGreatDoorF22
import Derived.Test.YtojkkgghndeimaaGreatDoorF24
import Derived.Test.YtojkkgghndeimaaGreatDoorF27
namespace Go.Mq.Check
open Go Go.RowKit Go.Mq Go.Mq.Tree Go.Mq.Sym Go.Mq.Ref
theorem modC {w:World} {F:Nat→Prop} {M:Mod} {v:Value} (h:ModAt w F M v) : ∃ a1 c1 a2 c2 a3 c3 a4 c4,v = .agg #[str M.name,.slice a1 M.imports.length c1,.slice a2 M.vars.length c2,.slice a3 M.procs.length c3,.slice a4 M.body.len c4]:=by
 obtain ⟨_,_,_,_,rfl,⟨_,_,rfl,_⟩,⟨_,_,rfl,_⟩,⟨_,_,_,rfl,_⟩,⟨_,_,_,rfl,_⟩⟩:=h
 exact ⟨_,_,_,_,_,_,_,_,rfl⟩
def Gath (w:World) (b:Nat) (seen:List UInt8→Option (List Sy)):Prop:=∃ es,MapIs w b es ∧ ∀ n,match seen n with
 | none=>getM es n=none
 | some l=>l.length≤1000 ∧ ∃ u,getM es n=some u∧SymsAt w (fun x=>b < x∧x < w.heap.size) l u
theorem Gath.kept {w w':World} {b:Nat} {seen:List UInt8→Option (List Sy)} (h:Gath w b seen) (hc:Chg [] w w'):Gath w' b seen:=by
 obtain ⟨es,h1,h2⟩:=h
 refine ⟨es,h1.kept hc (by simp),fun n=>?_⟩
 have:=h2 n
 cases hs : seen n with
 | none=>rw [hs] at this; exact this
 | some l=>
  rw [hs] at this
  obtain ⟨h3,u,h4,h5⟩:=this
  exact ⟨h3,u,h4,(h5.kept hc (by simp)).mono fun x hx=>⟨hx.1,by have:=hc.size; omega⟩⟩
theorem Gath.seenAt {w:World} {b:Nat} {seen:List UInt8→Option (List Sy)} (h:Gath w b seen):SeenAt w (fun x=>b≤x∧x < w.heap.size) seen (.map (some b)):=by
 obtain ⟨es,h1,h2⟩:=h
 refine .inr ⟨b,es,rfl,⟨Nat.le_refl _,h1.lt⟩,h1,fun n=>?_⟩
 have:=h2 n
 cases hs : seen n with
 | none=>rw [hs] at this; exact this
 | some l=>
  rw [hs] at this
  obtain ⟨h3,u,h4,h5⟩:=this
  exact ⟨h3,u,h4,h5.mono fun x hx=>⟨by omega,hx.2⟩⟩
theorem Gath.made (w:World):Gath (w.alloc (.map #[] 0)) w.heap.size (fun _=>none):=⟨[],MapIs.made w,fun n=>rfl⟩
end Go.Mq.Check
namespace Go.Proofs.YtojkkgghndeimaaGreatDoor
open Go Go.RowKit Go.Mq Go.Mq.Tree Go.Mq.Ref Go.Mq.Sym Go.Mq.Check
set_option maxRecDepth 100000
set_option maxHeartbeats 16000000
theorem gath_put {w:World} {b:Nat} {seen:List UInt8→Option (List Sy)} (h:Gath w b seen) (n:List UInt8) (L:List Sy) (u:Value) (hl:L.length≤1000) (hu:SymsAt w (fun x=>b < x∧x < w.heap.size) L u) :
  ∃ w',(Instr.mapUpdate 44 (.map (some b)) (str n) u).run Tryz.prog w = .ok () w'∧Hid (Gath w' b (fun x=>if n=x then some L else seen x))∧Hid (Chg [b] w w'):=by
 obtain ⟨es,h1,h2⟩:=h
 obtain ⟨w',hr,hm,hc⟩:=run_putM (P:=Tryz.prog) Tryz.underlying44 Tryz.underlying9 h1 n u
 have hz:=hc.size
 refine ⟨w',hr,Lib.hid ⟨_,hm,fun x=>?_⟩,Lib.hid hc⟩
 rw [getM_put]
 by_cases hx : n=x
 ·simp only [if_pos hx]
  exact ⟨hl,u,rfl,(hu.kept hc (fun y hy hn=>by simp at hy; omega)).mono fun y hy=>⟨hy.1,by omega⟩⟩
 ·simp only [if_neg hx]
  have:=h2 x
  cases hs : seen x with
  | none=>rw [hs] at this; exact this
  | some l=>
   rw [hs] at this
   obtain ⟨h3,v,h4,h5⟩:=this
   exact ⟨h3,v,h4,(h5.kept hc (fun y hy hn=>by simp at hy; omega)).mono fun y hy=>⟨hy.1,by omega⟩⟩
theorem finds_any (s:ByteArray) (others:List (List UInt8)) (hn63 : others.length≤9223372036854775807) (hz63 : ∀ n∈others,n.length≤9223372036854775807) (FN:Nat→Prop) (a0:Option Addr) (c0:Nat) (w:World) (hL:Laid w w.heap.size) (hR:RLaid w w.heap.size) (hE:ErrLaid w) (hN:NamesAt w FN others (.slice a0 others.length c0)) :
  Calls Tryz.prog 4 #[.string s,.slice a0 others.length c0] w fun e w'=>e = .returned (.bool true)∧Chg [] w w':=by
 have hmm:=@run_makeMap Tryz.prog
 obtain ⟨l,rfl⟩ : ∃ l:List UInt8,s=bs l:=⟨s.data.toList,by rw [bs_toList]⟩
 have HL:=Lib.hid hL; have HR:=Lib.hid hR; have HE:=Lib.hid hE; have HN:=Lib.hid hN; have HZ:=Lib.hid hz63
 clear hL hR hE hN hz63
 by_cases hbig : 1000 < l.length∨5 < others.length
 ·go_enter Tryz.func4,Tryz.ntmps4
  by_cases h1 : 1000 < l.length
  ·have hd : decide ((1000:Int) < (l.length:Int))=true:=by simp; omega
   clear hbig
   go_wp2_with fail
   go_ret
   exact ⟨rfl,Chg.refl _ _⟩
  ·have hd : decide ((1000:Int) < (l.length:Int))=false:=by simp; omega
   have hd2 : decide ((5:Int) < (others.length:Int))=true:=by simp; omega
   clear hbig
   go_wp2_with fail
   go_ret
   exact ⟨rfl,Chg.refl _ _⟩
 have hd1 : decide ((1000:Int) < (l.length:Int))=false:=by simp; omega
 have hd2 : decide ((5:Int) < (others.length:Int))=false:=by simp; omega
 have HLEN:=Lib.hid (show ¬ 1000 < l.length by omega)
 obtain ⟨w0,hw0⟩ : ∃ x,w.alloc (.map #[] 0)=x:=⟨_,rfl⟩
 have HC0:=Lib.hid (show Chg [] w w0 by rw [← hw0]; exact (Chg.refl _ _).alloc _)
 have HG0:=Lib.hid (show Gath w0 w.heap.size (fun _=>none) by rw [← hw0]; exact Gath.made w)
 clear hbig
 go_enter Tryz.func4,Tryz.ntmps4
 go_wp2_with fail
 clear hw0
 go_loopw [6,7,8] (fun i _ _ wr=>∃ (k:Nat) (seen:List UInt8→Option (List Sy)),k≤others.length∧i=num k∧Gath wr w.heap.size seen∧Chg [] w wr) (fun i _ _ _=>others.length - (intOf i).toNat)
 case atStart=>exact ⟨0,_,Nat.zero_le _,rfl,HG0.out,HC0.out⟩
 case round=>
  obtain ⟨k,seen,hk,rfl,hg,hc⟩:=hrel
  have HG:=Lib.hid hg; have HC:=Lib.hid hc; clear hg hc
  by_cases hlt : k < others.length
  ·obtain ⟨n,hn⟩ : ∃ n,others[k]?=some n:=⟨others[k],List.getElem?_eq_getElem hlt⟩
   obtain ⟨a',c',he,_,hrow⟩:=HN.out
   cases he
   obtain ⟨bb,o,rfl,hcell⟩:=(hrow.kept (S:=[]) HC.out (by simp)).at_ (by simp; omega)
   have hcl:=hcell k (str n) (by rw [List.getElem?_map,hn]; rfl)
   have hnz:=HZ.out n (List.mem_of_getElem? hn)
   clear hrow hcell hn
   by_cases h9 : 900 < n.length
   ·have hd : decide ((900:Int) < (n.length:Int))=true:=by simp; omega
    go_wp2_with fail
    go_ret
    exact ⟨rfl,HC.out⟩
   ·have hd : decide ((900:Int) < (n.length:Int))=false:=by simp; omega
    have H9:=Lib.hid h9
    obtain ⟨wO,hwO⟩ : ∃ x,x=wr:=⟨_,rfl⟩
    subst hwO
    clear h9 hnz
    go_wp2_with fail
    refine (rparse_any n (by have:=H9.out; omega) wO w.heap.size (HR.out.kept HC.out (by simp))).mono ?_; intro e wA he
    obtain ⟨hcA,v,rfl,hmA⟩:=rout he
    obtain ⟨M,hM⟩ : ∃ x,x=outM (parse n):=⟨_,rfl⟩
    obtain ⟨en,hen⟩ : ∃ x,x=outE (parse n):=⟨_,rfl⟩
    obtain ⟨pp,hpp⟩ : ∃ x,x=outP (parse n):=⟨_,rfl⟩
    rw [← hM] at hmA
    rw [← hen,← hpp]
    have HPM:=Lib.hid (And.intro hM (And.intro hen hpp)); clear hM hen hpp
    obtain ⟨a1,c1,a2,c2,a3,c3,a4,c4,rfl⟩:=modC hmA
    obtain ⟨wB,hwB⟩ : ∃ x,(wA.alloc (.cells #[str [],nils,nils,nils,nils] 31)).alloc (.cells #[num 0,num 0] 34)=x:=⟨_,rfl⟩
    have hcB:Chg [] wA wB:=hwB ▸ ((Chg.refl _ _).alloc _).alloc _
    have hbm:Blk wB wA.heap.size #[str [],nils,nils,nils,nils] 31:=hwB ▸ (Blk.new wA _ _).kept ((Chg.refl [] _).alloc _) (by simp)
    have hbf:Blk wB (wA.heap.size + 1) #[num 0,num 0] 34:=by
     have:=Blk.new (wA.alloc (.cells #[str [],nils,nils,nils,nils] 31)) #[num 0,num 0] 34
     rw [show (wA.alloc (.cells #[str [],nils,nils,nils,nils] 31)).heap.size=wA.heap.size + 1 by simp,hwB] at this; exact this
    obtain ⟨m0,m1,m2,m3,m4⟩:=hbm.five
    have mf0:=hbm.frozen 0; have mf1:=hbm.frozen 1; have mf2:=hbm.frozen 2; have mf3:=hbm.frozen 3; have mf4:=hbm.frozen 4
    obtain ⟨wX,hwX,hcX,hbX⟩:=set5 (str M.name) (.slice a1 M.imports.length c1) (.slice a2 M.vars.length c2) (.slice a3 M.procs.length c3) (.slice a4 M.body.len c4) hbm
    have hfX:=hbf.kept hcX (by simp)
    have k0:=hfX.cell 0 (num 0) rfl; have k1:=hfX.cell 1 (num 0) rfl; have kf0:=hfX.frozen 0; have kf1:=hfX.frozen 1
    obtain ⟨wY,hwY,hcY,hbY⟩:=set2 (num en) (num pp) hfX
    have hbXY:=hbX.kept hcY (by simp)
    have hcAY:Chg [] wA wY:=(hcB.trans hcX (fun x hx=>.inr (by simp at hx; omega))).trans hcY (fun x hx=>.inr (by simp at hx; omega))
    have HCA:=Lib.hid hcA; have HCAY:=Lib.hid hcAY; have HMA:=Lib.hid hmA; have HBX:=Lib.hid hbXY; have HBY:=Lib.hid hbY
    clear he hcA hmA hcB hbm hbf hcX hbX hfX hcY hbY hbXY hcAY
    have HCY:=Lib.hid (HC.out.then (HCA.out.then HCAY.out))
    have hRY:=HR.out.kept HCY.out (by simp)
    have f0:=hRY.fine0; have f1:=hRY.fine1
    have y0:=HBY.out.cell 0 _ rfl; have y1:=HBY.out.cell 1 _ rfl
    clear hRY
    cases hr : parse n with
    | bad e p=>
     obtain rfl : en=(e:Int):=by rw [HPM.out.2.1,hr]; rfl
     obtain rfl : pp=(p:Int):=by rw [HPM.out.2.2,hr]; rfl
     have hp1 : ((p:Int) == -1)=false:=by simp <;> omega
     have HGY:=Lib.hid (HG.out.kept (HCA.out.then HCAY.out))
     clear hr
     go_wp2_with fail
     exact ⟨⟨k + 1,seen,by omega,by go_num,HGY.out,HCY.out⟩,by simp [intOf]; omega⟩
    | ok m=>
     obtain rfl : en=0:=by rw [HPM.out.2.1,hr]; rfl
     obtain rfl : pp = -1:=by rw [HPM.out.2.2,hr]; rfl
     obtain rfl:M=m:=by rw [HPM.out.1,hr]; rfl
     have HWF:=Lib.hid (parse_sp hr).1
     clear hr
     go_upto_region 11 with fail
     clear m0 m1 m2 m3 m4 mf0 mf1 mf2 mf3 mf4 k0 k1 kf0 kf1 hwB hwX hwY f0 f1 y0 y1 hcl
     obtain ⟨wD,hwD⟩ : ∃ x,x=wY.drew:=⟨_,rfl⟩
     have hcD:Chg [] wY wD:=by rw [hwD]; exact (Chg.refl [] wY).drew
     have HMD:=Lib.hid (HMA.out.kept (HCAY.out.then hcD) (by simp))
     have HBD:=Lib.hid (HBX.out.kept hcD (by simp))
     have HGD:=Lib.hid (HG.out.kept ((HCA.out.then HCAY.out).then hcD))
     have HCD:=Lib.hid (HCY.out.then hcD)
     have HLO:=Lib.hid (show w.heap.size < wO.heap.size from by obtain ⟨es,h,_⟩:=HG.out; exact h.lt)
     have HLA:=Lib.hid (show wO.heap.size≤wA.heap.size from HCA.out.size)
     have HSA:=Lib.hid (show wA.heap.size≤wD.heap.size from (HCAY.out.then hcD).size)
     obtain ⟨m0,m1,m2,m3,m4⟩:=HBD.out.five
     have Z0:=Lib.hid (Zone.of (X:=[w.heap.size]) (w0:=wD) m0 (by have:=HLO.out; have:=HLA.out; simp; omega)); have Z1:=Lib.hid (Zone.of (X:=[w.heap.size]) (w0:=wD) m1 (by have:=HLO.out; have:=HLA.out; simp; omega)); have Z2:=Lib.hid (Zone.of (X:=[w.heap.size]) (w0:=wD) m2 (by have:=HLO.out; have:=HLA.out; simp; omega)); have Z3:=Lib.hid (Zone.of (X:=[w.heap.size]) (w0:=wD) m3 (by have:=HLO.out; have:=HLA.out; simp; omega)); have Z4:=Lib.hid (Zone.of (X:=[w.heap.size]) (w0:=wD) m4 (by have:=HLO.out; have:=HLA.out; simp; omega))
     obtain ⟨L,hL⟩ : ∃ x,x=insSort (seenL M.vars M.procs):=⟨_,rfl⟩
     have HOF:=Lib.hid (show Calls Tryz.prog 13 #[.agg #[str M.name,.slice a1 M.imports.length c1,.slice a2 M.vars.length c2,.slice a3 M.procs.length c3,.slice a4 M.body.len c4]] wD (fun e w2=>∃ v,e = .returned v∧SymsAt w2 (New wD w2) L v∧Chg [] wD w2) from by
      obtain ⟨vi,vv,vp,vb,he,_,hgv,hpv,_⟩:=HMD.out
      cases he
      rw [hL]
      exact rof_any M.vars M.procs HWF.out.fewv HWF.out.fewp (New wO wA) M.name a1 _ c1 a4 _ c4 _ _ wD (fun x hx=>by have:=hx.2; have:=HSA.out; omega) hgv (procsL_of hpv))
     have HL20:=Lib.hid (show L.length≤20 by rw [hL]; exact seenL_len HWF.out.fewv HWF.out.fewp)
     clear hcD hL
     refine wp_region_C [w.heap.size] rfl (by kernel_rfl) ?_
     rw [← hwD]
     clear hwD
     have hS:Chg [w.heap.size] wD wD:=Chg.refl _ _
     repeat ((with_reducible refine gX ?_); (first | refine wpX_nil ?_ | refine sK ?_ | refine sM fun _ _=>?_ | refine sL (hz:=by first | exact Z0.out | exact Z1.out | exact Z2.out | exact Z3.out | exact Z4.out) fun _ _=>?_ | refine sE fun _ _=>?_); go_wp2_with fail)
     refine HOF.out.mono ?_; rintro _ w2 ⟨u,rfl,hsy,hc2⟩
     obtain ⟨w3,hput,HG3,HC3⟩:=gath_put (HGD.out.kept hc2) M.name L u (by have:=HL20.out; omega) (hsy.mono fun x hx=>⟨by have:=HLO.out; have:=HLA.out; have:=HSA.out; have:=hx.1; omega,hx.2⟩)
     have HCW3:=Lib.hid (show Chg [] w w3 from (HCD.out.then hc2).trans HC3.out (fun x hx=>.inr (by simp at hx; omega)))
     have hS2:Chg [w.heap.size] wD w2:=hc2.weak
     have hS3:Chg [w.heap.size] wD w3:=hS2.then HC3.out
     obtain ⟨xu,nu,yu,rfl⟩ : ∃ x n y,u = .slice x n y:=by
      obtain ⟨x,y,h,_⟩:=hsy; exact ⟨x,_,y,h⟩
     clear hsy hc2
     go_wp2_with fail
     refine And.intro hS2 ?_
     repeat ((with_reducible refine gX ?_); (first | refine wpX_nil ?_ | refine sK ?_ | refine sM fun _ _=>?_ | refine sL (hz:=by first | exact Z0.out | exact Z1.out | exact Z2.out | exact Z3.out | exact Z4.out) fun _ _=>?_ | refine sE fun _ _=>?_); go_wp2_with fail)
     refine And.intro hS3 ?_
     repeat ((with_reducible refine gX ?_); (first | refine wpX_nil ?_ | refine sK ?_ | refine sM fun _ _=>?_ | refine sL (hz:=by first | exact Z0.out | exact Z1.out | exact Z2.out | exact Z3.out | exact Z4.out) fun _ _=>?_ | refine sE fun _ _=>?_); go_wp2_with fail)
     clear hS hS2 hS3 m0 m1 m2 m3 m4
     go_wp2_with fail
     exact ⟨⟨k + 1,_,by omega,by go_num,HG3.out,HCW3.out⟩,by simp [intOf]; omega⟩
  ·obtain ⟨wL,hwL⟩ : ∃ x,x=wr:=⟨_,rfl⟩
   subst hwL
   have HGL:=Lib.hid HG.out; have HCL:=Lib.hid HC.out
   clear HG HC
   go_wp2_with fail
   refine (rparse_any l (by have:=HLEN.out; omega) wL w.heap.size (HR.out.kept HCL.out (by simp))).mono ?_; intro e wA he
   obtain ⟨hcA,v,rfl,hmA⟩:=rout he
   obtain ⟨M,hM⟩ : ∃ x,x=outM (parse l):=⟨_,rfl⟩
   obtain ⟨en,hen⟩ : ∃ x,x=outE (parse l):=⟨_,rfl⟩
   obtain ⟨pp,hpp⟩ : ∃ x,x=outP (parse l):=⟨_,rfl⟩
   rw [← hM] at hmA
   rw [← hen,← hpp]
   have HPM:=Lib.hid (And.intro hM (And.intro hen hpp)); clear hM hen hpp
   obtain ⟨a1,c1,a2,c2,a3,c3,a4,c4,rfl⟩:=modC hmA
   obtain ⟨wB,hwB⟩ : ∃ x,(wA.alloc (.cells #[str [],nils,nils,nils,nils] 31)).alloc (.cells #[num 0,num 0] 34)=x:=⟨_,rfl⟩
   have hcB:Chg [] wA wB:=hwB ▸ ((Chg.refl _ _).alloc _).alloc _
   have hbm:Blk wB wA.heap.size #[str [],nils,nils,nils,nils] 31:=hwB ▸ (Blk.new wA _ _).kept ((Chg.refl [] _).alloc _) (by simp)
   have hbf:Blk wB (wA.heap.size + 1) #[num 0,num 0] 34:=by
    have:=Blk.new (wA.alloc (.cells #[str [],nils,nils,nils,nils] 31)) #[num 0,num 0] 34
    rw [show (wA.alloc (.cells #[str [],nils,nils,nils,nils] 31)).heap.size=wA.heap.size + 1 by simp,hwB] at this; exact this
   obtain ⟨m0,m1,m2,m3,m4⟩:=hbm.five
   have mf0:=hbm.frozen 0; have mf1:=hbm.frozen 1; have mf2:=hbm.frozen 2; have mf3:=hbm.frozen 3; have mf4:=hbm.frozen 4
   obtain ⟨wX,hwX,hcX,hbX⟩:=set5 (str M.name) (.slice a1 M.imports.length c1) (.slice a2 M.vars.length c2) (.slice a3 M.procs.length c3) (.slice a4 M.body.len c4) hbm
   have hfX:=hbf.kept hcX (by simp)
   have k0:=hfX.cell 0 (num 0) rfl; have k1:=hfX.cell 1 (num 0) rfl; have kf0:=hfX.frozen 0; have kf1:=hfX.frozen 1
   obtain ⟨wY,hwY,hcY,hbY⟩:=set2 (num en) (num pp) hfX
   have hbXY:=hbX.kept hcY (by simp)
   have hcAY:Chg [] wA wY:=(hcB.trans hcX (fun x hx=>.inr (by simp at hx; omega))).trans hcY (fun x hx=>.inr (by simp at hx; omega))
   have HCA:=Lib.hid hcA; have HCAY:=Lib.hid hcAY; have HMA:=Lib.hid hmA; have HBX:=Lib.hid hbXY; have HBY:=Lib.hid hbY
   clear he hcA hmA hcB hbm hbf hcX hbX hfX hcY hbY hbXY hcAY
   go_wp2_with fail
   clear m0 m1 m2 m3 m4 mf0 mf1 mf2 mf3 mf4 k0 k1 kf0 kf1 hwB hwX hwY
   have HLy:=Lib.hid (HL.out.kept ((HCL.out.then HCA.out).then HCAY.out) (by simp))
   refine (parse_any l (by have:=HLEN.out; omega) wY w.heap.size HLy.out).mono ?_; intro e wC he
   obtain ⟨hcC,v,ev,rfl,hev,hmC⟩:=tout he
   rw [← HPM.out.1] at hmC
   rw [← HPM.out.2.1,← HPM.out.2.2] at hev
   obtain ⟨d1,e1,d2,e2,d3,e3,d4,e4,rfl⟩:=modC hmC
   obtain ⟨wE,hwE⟩ : ∃ x,wC.alloc (.cells #[str [],nils,nils,nils,nils] 31)=x:=⟨_,rfl⟩
   have hcE:Chg [] wC wE:=hwE ▸ (Chg.refl _ _).alloc _
   have hbm:Blk wE wC.heap.size #[str [],nils,nils,nils,nils] 31:=hwE ▸ Blk.new wC _ _
   obtain ⟨m0,m1,m2,m3,m4⟩:=hbm.five
   have mf0:=hbm.frozen 0; have mf1:=hbm.frozen 1; have mf2:=hbm.frozen 2; have mf3:=hbm.frozen 3; have mf4:=hbm.frozen 4
   obtain ⟨wF,hwF,hcF,hbF⟩:=set5 (str M.name) (.slice d1 M.imports.length e1) (.slice d2 M.vars.length e2) (.slice d3 M.procs.length e3) (.slice d4 M.body.len e4) hbm
   have hcCF:Chg [] wC wF:=hcE.trans hcF (fun x hx=>.inr (by simp at hx; omega))
   have hbX:=HBX.out.kept (hcC.then hcCF) (by simp)
   have hbY:=HBY.out.kept (hcC.then hcCF) (by simp)
   have y0:=hbY.cell 0 (num en) rfl; have y1:=hbY.cell 1 (num pp) rfl
   have HBF:=Lib.hid hbF; have HBX2:=Lib.hid hbX
   have HCYF:=Lib.hid (hcC.then hcCF); have HCCF:=Lib.hid hcCF
   have HEV:=Lib.hid (show ErrIs wF ev en pp from by
    rcases hev with h | ⟨b,h,hb⟩
    ·exact .inl h
    ·exact .inr ⟨b,h,hb.kept hcCF (by simp)⟩)
   have HMC:=Lib.hid hmC
   clear he hcC hcE hcF hcCF hbX hbY hbF hev hmC hbm
   have HCLF:=Lib.hid (HCA.out.then (HCAY.out.then HCYF.out))
   have HCWF:=Lib.hid (HCL.out.then HCLF.out)
   have HRF:=Lib.hid (HR.out.kept HCWF.out (by simp))
   have HEF:=Lib.hid (HE.out.kept HCWF.out (by simp))
   have f0:=HRF.out.fine0; have f1:=HRF.out.fine1
   cases hr : parse l with
   | bad e p=>
    obtain rfl : en=(e:Int):=by rw [HPM.out.2.1,hr]; rfl
    obtain rfl : pp=(p:Int):=by rw [HPM.out.2.2,hr]; rfl
    have hp1 : ((p:Int) == -1)=false:=by simp <;> omega
    clear hr
    go_wp2_with fail
    refine (is_same HEF.out HEV.out).mono ?_; rintro _ wG ⟨rfl,hcG⟩
    have HCG:=Lib.hid (HCWF.out.then hcG)
    clear hcG
    go_wp2_with fail
    go_ret
    exact ⟨rfl,HCG.out⟩
   | ok m=>
    obtain rfl : en=0:=by rw [HPM.out.2.1,hr]; rfl
    obtain rfl : pp = -1:=by rw [HPM.out.2.2,hr]; rfl
    obtain rfl:M=m:=by rw [HPM.out.1,hr]; rfl
    obtain ⟨hwf,hmk⟩:=parse_sp hr
    have HWF:=Lib.hid hwf
    have HFM:=Lib.hid (Check.few_mod (by have:=HLEN.out; omega) hr)
    have HMK:=Lib.hid (show (modK M).length≤900000 by have:=HLEN.out; omega)
    have hev:=HEV.out
    clear hr hwf hmk
    rcases hev with ⟨rfl,_,_⟩ | ⟨be,rfl,_⟩
    rotate_left
    ·go_wp2_with fail
     refine (is_same HEF.out HEV.out).mono ?_; rintro _ wG ⟨rfl,hcG⟩
     have HCG:=Lib.hid (HCWF.out.then hcG)
     clear hcG
     go_wp2_with fail
     go_ret
     exact ⟨rfl,HCG.out⟩
    go_upto_region 16 with fail
    clear m0 m1 m2 m3 m4 mf0 mf1 mf2 mf3 mf4 y0 y1 hwE hwF f0 f1
    obtain ⟨wD,hwD⟩ : ∃ x,x=wF.drew:=⟨_,rfl⟩
    have hcD:Chg [] wF wD:=by rw [hwD]; exact (Chg.refl [] wF).drew
    have HCD:=Lib.hid (HCWF.out.then hcD)
    have HMCD:=Lib.hid (HMC.out.kept (HCCF.out.then hcD) (by simp)); have HMAD:=Lib.hid (HMA.out.kept ((HCAY.out.then HCYF.out).then hcD) (by simp))
    have HFC:=Lib.hid (show ∀ x,New wY wC x→x < wD.heap.size from fun x hx=>by have:=hx.2; have:=(HCCF.out.then hcD).size; omega)
    have HFA:=Lib.hid (show ∀ x,New wL wA x→x < wD.heap.size from fun x hx=>by have:=hx.2; have:=((HCAY.out.then HCYF.out).then hcD).size; omega)
    have HGD:=Lib.hid (show Gath wD w.heap.size seen from HGL.out.kept (HCLF.out.then hcD))
    obtain ⟨m0,m1,m2,m3,m4⟩:=(HBF.out.kept hcD (by simp)).five
    obtain ⟨n0,n1',n2',n3',n4'⟩:=(HBX2.out.kept hcD (by simp)).five
    have HLF:=Lib.hid (show wC.heap.size < wD.heap.size from lt_of_cell m0)
    have HLX:=Lib.hid (show wA.heap.size < wD.heap.size from lt_of_cell n0)
    have HK1:=Lib.hid (ccheck_any M HFM.out seen (fun x=>New wY wC x∨(w.heap.size≤x∧x < wD.heap.size)) _ (.map (some w.heap.size)) wD (fun x hx=>hx.elim (fun h=>HFC.out x h) (fun h=>h.2)) (HMCD.out.mono fun x hx=>.inl hx) (HGD.out.seenAt.mono fun x hx=>.inr hx))
    have HK2:=Lib.hid (show ∀ w',Chg [] wD w'→Calls Tryz.prog 15 #[.agg #[str M.name,.slice a1 M.imports.length c1,.slice a2 M.vars.length c2,.slice a3 M.procs.length c3,.slice a4 M.body.len c4],.map (some w.heap.size)] w' (fun e w2=>e = .returned (outV (check M seen))∧Chg [] w' w2) from fun w' hc=>rcheck_any M HWF.out HMK.out HFM.out seen (fun x=>New wL wA x∨(w.heap.size≤x∧x < wD.heap.size)) _ (.map (some w.heap.size)) w' w.heap.size (HR.out.kept (HCD.out.then hc) (by simp)) (HCD.out.then hc).size (fun x hx=>by have:=hc.size; exact hx.elim (fun h=>by have:=HFA.out x h; omega) (fun h=>by omega)) ((HMAD.out.kept hc (by simp)).mono fun x hx=>.inl hx) ((HGD.out.seenAt.kept hc (by simp)).mono fun x hx=>.inr hx))
    obtain ⟨ot,hot⟩ : ∃ x,x=check M seen:=⟨_,rfl⟩
    rw [← hot] at HK1 HK2
    have HED:=Lib.hid (show ∀ w',Chg [] wD w'→ErrLaid w' from fun w' hc=>HE.out.kept (HCD.out.then hc) (by simp))
    clear hcD hot
    refine wp_region_C [] rfl (by kernel_rfl) ?_
    rw [← hwD]
    clear hwD
    have hS:Chg [] wD wD:=Chg.refl _ _
    repeat ((with_reducible refine gX ?_); (first | refine wpX_nil ?_ | refine sK ?_ | refine sM fun _ _=>?_ | refine sL fun _ _=>?_ | refine sE fun _ _=>?_); go_wp2_with fail)
    refine HK1.out.mono ?_; intro e1' w2 hco
    obtain ⟨hc2,cv,rfl,hoi⟩:=outIs_of hco
    have HOI:=Lib.hid hoi
    have hS2:=Chg.then hS hc2; have hk2:=Chg.cells hS2 HLF.out (by simp); have hk2':=Chg.cells hS2 HLX.out (by simp)
    clear hco hc2 hoi
    go_wp2_with fail
    refine And.intro (by assumption:Chg _ _ _) ?_
    repeat ((with_reducible refine gX ?_); (first | refine wpX_nil ?_ | refine sK ?_ | refine sM fun _ _=>?_ | refine sL fun _ _=>?_ | refine sE fun _ _=>?_); go_wp2_with fail)
    refine (HK2.out w2 hS2).mono ?_; rintro _ w3 ⟨rfl,hc3⟩
    have hS3:=Chg.then hS2 hc3
    have HOI3:=Lib.hid (HOI.out.kept hc3)
    have HIS:=Lib.hid (is_out (HED.out w3 hS3) HOI3.out)
    rw [← outV_eq] at HIS
    obtain ⟨ov,hov⟩ : ∃ x,x=outV ot:=⟨_,rfl⟩
    rw [← hov] at HIS ⊢
    clear hc3 hk2 hk2' hov
    go_wp2_with fail
    refine And.intro (by assumption:Chg _ _ _) ?_
    repeat ((with_reducible refine gX ?_); (first | refine wpX_nil ?_ | refine sK ?_ | refine sM fun _ _=>?_ | refine sL fun _ _=>?_ | refine sE fun _ _=>?_); go_wp2_with fail)
    refine HIS.out.mono ?_; rintro _ w4 ⟨rfl,hc4⟩
    have hS4:=Chg.then hS3 hc4
    have HC4:=Lib.hid (HCD.out.then hS4)
    clear hc4
    go_wp2_with fail
    refine And.intro (by assumption:Chg _ _ _) ?_
    repeat ((with_reducible refine gX ?_); (first | refine wpX_nil ?_ | refine sK ?_ | refine sM fun _ _=>?_ | refine sL fun _ _=>?_ | refine sE fun _ _=>?_); go_wp2_with fail)
    clear hS hS2 hS3 hS4
    go_wp2_with fail
    go_ret
    exact ⟨rfl,HC4.out⟩
end Go.Proofs.YtojkkgghndeimaaGreatDoor
