/- Some texts in one. -/
import Derived.Test.YtilhhkokdfajiaaGreatDoorI2
import Derived.Test.YtilhhkokdfajiaaGreatDoorI6
import Derived.Test.YtilhhkokdfajiaaGreatDoorI19
namespace Go.Mq.Check
open Go Go.RowKit Go.Mq Go.Mq.Tree Go.Mq.Sym
def seenA (l:List Sy):List UInt8→Option (List Sy):=fun n=>if n=[97] then some l else none
def isFine:Out→Bool
 | .fine=>true
 | _=>false
def isAt:Out→Nat→Bool
 | .at_ e _,k=>e == k
 | _,_=>false
def isPlain:Out→Nat→Bool
 | .plain e,k=>e == k
 | _,_=>false
theorem checked_fact : (match parse [109,111,100,117,108,101,32,109,59,32,105,109,112,111,114,116,32,97,59,32,118,97,114,32,120,58,32,105,110,116,59,32,112,114,111,99,32,102,40,41,59,32,98,101,103,105,110,32,120,32,58,61,32,97,46,121,59,32,101,110,100,59,32,98,101,103,105,110,32,102,40,41,59,32,101,110,100,46] with | .ok m=>isFine (check m (seenA [⟨[121],0,-1⟩])) && isAt (check m (seenA [])) 7 && isPlain (check m fun _=>none) 8 | .bad _ _=>false)=true:=by
 decide +kernel
theorem checked_at : ∃ m,parse [109,111,100,117,108,101,32,109,59,32,105,109,112,111,114,116,32,97,59,32,118,97,114,32,120,58,32,105,110,116,59,32,112,114,111,99,32,102,40,41,59,32,98,101,103,105,110,32,120,32,58,61,32,97,46,121,59,32,101,110,100,59,32,98,101,103,105,110,32,102,40,41,59,32,101,110,100,46] = .ok m∧check m (seenA [⟨[121],0,-1⟩]) = .fine∧(∃ q,check m (seenA []) = .at_ 7 q)∧check m (fun _=>none) = .plain 8:=by
 have h:=checked_fact
 split at h
 ·rename_i m hm
  simp only [Bool.and_eq_true] at h
  obtain ⟨⟨h1,h2⟩,h3⟩:=h
  refine ⟨m,hm,?_,?_,?_⟩
  ·cases hc : check m (seenA [⟨[121],0,-1⟩]) <;> rw [hc] at h1 <;> first | rfl | cases h1
  ·cases hc : check m (seenA []) with
   | fine=>rw [hc] at h2; cases h2
   | plain e=>rw [hc] at h2; cases h2
   | at_ e p=>
    rw [hc] at h2
    have h7 : e=7:=by simpa [isAt] using h2
    exact ⟨p,by rw [h7]⟩
  ·cases hc : check m (fun _=>none) with
   | fine=>rw [hc] at h3; cases h3
   | at_ e p=>rw [hc] at h3; cases h3
   | plain e=>
    rw [hc] at h3
    have h8 : e=8:=by simpa [isPlain] using h3
    rw [h8]
 ·cases h
end Go.Mq.Check
namespace Go.Proofs.YtilhhkokdfajiaaGreatDoor
open Go Go.RowKit Go.Mq Go.Mq.Tree Go.Mq.Sym Go.Mq.Check
set_option maxRecDepth 100000
set_option maxHeartbeats 4000000
theorem seen_lt {w:World} {b k:Nat} {seen:List UInt8→Option (List Sy)} (h:SeenIn w b (fun x=>k < x) seen):SeenIn w b (fun x=>k < x∧x < w.heap.size) seen:=by
 obtain ⟨es,h1,h2⟩:=h
 refine ⟨es,h1,fun n=>?_⟩
 have:=h2 n
 cases hs : seen n with
 | none=>rw [hs] at this; exact this
 | some l=>
  rw [hs] at this
  obtain ⟨h5,u,h6,a,c,rfl,h7,h8,h9⟩:=this
  refine ⟨h5,_,h6,a,c,rfl,h7,⟨h8.at_,fun h0 p hp=>⟨h8.own h0 p hp,?_⟩⟩,h9⟩
  subst hp
  obtain ⟨bb,o,he,hc⟩:=h8.at_ h0
  cases he
  exact lt_of_cell (hc 0 _ (List.getElem?_eq_getElem h0))
theorem checked_any (w:World) (B:Nat) (hL:Laid w B) (hg:ErrLaid w):Calls Tryz.prog 5 #[] w (Holds w):=by
 have hmm:=@run_makeMap Tryz.prog
 obtain ⟨m,hm,hc1,⟨q,hc2⟩,hc3⟩:=checked_at
 have hwf:=parse_sp hm
 have hfm:=few_mod (by decide) hm
 have hP:=parse_any [109,111,100,117,108,101,32,109,59,32,105,109,112,111,114,116,32,97,59,32,118,97,114,32,120,58,32,105,110,116,59,32,112,114,111,99,32,102,40,41,59,32,98,101,103,105,110,32,120,32,58,61,32,97,46,121,59,32,101,110,100,59,32,98,101,103,105,110,32,102,40,41,59,32,101,110,100,46] (by decide) w B hL
 rw [hm] at hP
 have HP:=Lib.hid hP
 have HC1:=Lib.hid hc1; have HC2:=Lib.hid hc2; have HC3:=Lib.hid hc3
 have HFM:=Lib.hid hfm; have HG:=Lib.hid hg
 clear hP hm hc1 hc2 hc3 hwf hL hg hfm
 go_enter Tryz.func5,Tryz.ntmps5
 go_wp2_with fail
 refine HP.out.mono ?_; rintro _ w1 ⟨hc1,v,rfl,hmod⟩
 have HMD:=Lib.hid hmod
 obtain ⟨aia,cia,ava,cva,apa,cpa,aba,cba,rfl,hgv,hpv⟩:=mod_parts hmod
 have hz:=Blk.new w1 #[str [],nils,nils,nils,nils] 29
 obtain ⟨wA,hwA⟩ : ∃ w',w1.alloc (.cells #[str [],nils,nils,nils,nils] 29)=w':=⟨_,rfl⟩
 rw [hwA] at hz
 have hcA:Chg [] w1 wA:=by rw [← hwA]; exact (Chg.refl _ _).alloc _
 obtain ⟨wF,hwF,hcF,hbF⟩:=set5 (str m.name) (.slice aia m.imports.length cia) (.slice ava m.vars.length cva) (.slice apa m.procs.length cpa) (.slice aba m.body.len cba) hz
 have hcG:Chg [] w1 wF:=hcA.trans hcF (fun x hx=>.inr (by simp at hx; omega))
 have hcw:Chg [] w wF:=hc1.then hcG
 have z0:=hz.cell 0 _ rfl; have z1:=hz.cell 1 _ rfl; have z2:=hz.cell 2 _ rfl; have z3:=hz.cell 3 _ rfl; have z4:=hz.cell 4 _ rfl
 have y0:=hz.frozen 0; have y1:=hz.frozen 1; have y2:=hz.frozen 2; have y3:=hz.frozen 3; have y4:=hz.frozen 4
 have HCF:=Lib.hid hcw; have HBF:=Lib.hid hbF
 have hbFx:=hbF
 have HMF:=Lib.hid (show ModAt wF (New w wF) m (.agg #[str m.name,.slice aia m.imports.length cia,.slice ava m.vars.length cva,.slice apa m.procs.length cpa,.slice aba m.body.len cba]) from (HMD.out.kept hcG (by simp)).mono (fun x hx=>⟨hx.1,by have:=hx.2; have:=hcG.size; omega⟩))
 clear hc1 hz hcA hcF hbF hcw hcG hmod hgv hpv
 have x0:=hbFx.cell 0 _ rfl; have x1:=hbFx.cell 1 _ rfl; have x2:=hbFx.cell 2 _ rfl; have x3:=hbFx.cell 3 _ rfl; have x4:=hbFx.cell 4 _ rfl
 clear hbFx
 have HMX:=Lib.hid (HMF.out.mono (G:=fun x=>x < wF.heap.size) fun x hx=>hx.2)
 obtain ⟨wM,hwM⟩ : ∃ x,wF.alloc (.map #[] 0)=x:=⟨_,rfl⟩
 have hc_wM:Chg [] wF wM:=by rw [← hwM]; exact (Chg.refl _ _).alloc _
 have hs_wM : wM.heap.size=wF.heap.size + 1:=by rw [← hwM]; simp
 have hin_wM:SeenIn wM wF.heap.size (fun x=>wF.heap.size < x) (fun _=>none):=by rw [← hwM]; exact SeenIn.made _ _
 obtain ⟨wS,hwS⟩ : ∃ x,wM.alloc (.cells #[.string ⟨#[121]⟩,.int .i64 0,.int .i64 (-1)] 41)=x:=⟨_,rfl⟩
 have hb_wS:=Blk.new wM #[.string ⟨#[121]⟩,.int .i64 0,.int .i64 (-1)] 41
 rw [hwS] at hb_wS
 have hc_wS:Chg [] wM wS:=by rw [← hwS]; exact (Chg.refl _ _).alloc _
 have hsy_wS:SymsAt wS (fun x=>wF.heap.size < x) [⟨[121],0,-1⟩] (.slice (some ⟨wM.heap.size,0,none⟩) 1 1):=by
  refine ⟨_,_,rfl,Nat.le_refl _,⟨fun _=>⟨_,0,rfl,fun i v hv=>?_⟩,fun _ p hp=>?_⟩,fun h=>by cases h⟩
  ·rw [Nat.zero_add]; exact hb_wS.cell i v (by simpa [Sy.cells] using hv)
  ·cases hp; show wF.heap.size < wM.heap.size; omega
 obtain ⟨w3,hrun_w3,hin_w3,hcx_w3⟩:=seen_put (hin_wM.kept hc_wS (by simp) (by simp)) (fun h=>by omega) [97] [⟨[121],0,-1⟩] _ (by simp) hsy_wS
 have hr_w3 : (Instr.mapUpdate 34 (.map (some wF.heap.size)) (.string ⟨#[97]⟩) (.slice (some ⟨wM.heap.size,0,none⟩) 1 1)).run Tryz.prog wS = .ok () w3:=hrun_w3
 have hcy_w3:Chg [] wF w3:=(hc_wM.then hc_wS).trans hcx_w3 (fun x hx=>.inr (by simp at hx; omega))
 have HMA:=Lib.hid (show ModAt w3 (fun x=>x < w3.heap.size) m (.agg #[str m.name,.slice aia m.imports.length cia,.slice ava m.vars.length cva,.slice apa m.procs.length cpa,.slice aba m.body.len cba]) from ((HMX.out.kept hcy_w3 (by simp)).mono fun x hx=>by have:=hcy_w3.size; have : x < wF.heap.size:=hx; omega))
 have hlt_w3 : wF.heap.size < w3.heap.size:=by have h1:=hc_wS.size; have h2:=hcx_w3.size; omega
 have hsn_w3:SeenAt w3 (fun x=>x < w3.heap.size) (seenA [⟨[121],0,-1⟩]) (.map (some wF.heap.size)):=by
  have h0:=hin_w3
  have h1:=hcx_w3.size
  refine SeenIn.at_ (G:=fun x=>wF.heap.size < x∧x < w3.heap.size) ?_ (fun x hx=>hx.2) hlt_w3
  exact (seen_lt h0)
 have HK:=Lib.hid (ccheck_any m HFM.out (seenA [⟨[121],0,-1⟩]) (fun x=>x < w3.heap.size) _ _ w3 (fun _ h=>h) HMA.out hsn_w3)
 rw [HC1.out] at HK
 have HCY:=Lib.hid hcy_w3
 have hs_wS : wS.heap.size=wM.heap.size + 1:=by rw [← hwS]; simp
 clear hin_wM hb_wS hc_wS hsy_wS hrun_w3 hin_w3 hcx_w3 hsn_w3 hcy_w3 hc_wM hlt_w3 hs_wM hs_wS
 go_wp2_with fail
 clear hwA hwF z0 z1 z2 z3 z4 y0 y1 y2 y3 y4 hwM hwS hr_w3 x0 x1 x2 x3 x4
 refine HK.out.mono ?_; rintro _ w4 ⟨hc4,rfl⟩
 have HCZ:=Lib.hid (show Chg [] wF w4 from HCY.out.then hc4)
 have HMX:=Lib.hid (show ModAt w4 (fun x=>x < w4.heap.size) m _ from (HMA.out.kept hc4 (by simp)).mono fun x hx=>by have:=hc4.size; have : x < w3.heap.size:=hx; omega)
 clear hc4
 have x0 : w4.cell? ⟨w1.heap.size,0,none⟩=_:=(HBF.out.kept HCZ.out (by simp)).cell 0 _ rfl
 have x1 : w4.cell? ⟨w1.heap.size,1,none⟩=_:=(HBF.out.kept HCZ.out (by simp)).cell 1 _ rfl
 have x2 : w4.cell? ⟨w1.heap.size,2,none⟩=_:=(HBF.out.kept HCZ.out (by simp)).cell 2 _ rfl
 have x3 : w4.cell? ⟨w1.heap.size,3,none⟩=_:=(HBF.out.kept HCZ.out (by simp)).cell 3 _ rfl
 have x4 : w4.cell? ⟨w1.heap.size,4,none⟩=_:=(HBF.out.kept HCZ.out (by simp)).cell 4 _ rfl
 obtain ⟨wN,hwN⟩ : ∃ x,w4.alloc (.map #[] 0)=x:=⟨_,rfl⟩
 have hc_wN:Chg [] w4 wN:=by rw [← hwN]; exact (Chg.refl _ _).alloc _
 have hs_wN : wN.heap.size=w4.heap.size + 1:=by rw [← hwN]; simp
 have hin_wN:SeenIn wN w4.heap.size (fun x=>w4.heap.size < x) (fun _=>none):=by rw [← hwN]; exact SeenIn.made _ _
 obtain ⟨wT,hwT⟩ : ∃ x,x=wN:=⟨_,rfl⟩
 have hc_wT:Chg [] wN wT:=by rw [hwT]; exact Chg.refl _ _
 have hsy_wT:SymsAt wT (fun x=>w4.heap.size < x) [] nils:=⟨none,0,rfl,Nat.le_refl _,Row.nil _ _ _,fun _=>rfl⟩
 obtain ⟨w5,hrun_w5,hin_w5,hcx_w5⟩:=seen_put (hin_wN.kept hc_wT (by simp) (by simp)) (fun h=>by omega) [97] [] _ (by simp) hsy_wT
 have hr_w5 : (Instr.mapUpdate 34 (.map (some w4.heap.size)) (.string ⟨#[97]⟩) (nils)).run Tryz.prog wN = .ok () w5:=by rw [hwT] at hrun_w5; exact hrun_w5
 have hcy_w5:Chg [] w4 w5:=(hc_wN.then hc_wT).trans hcx_w5 (fun x hx=>.inr (by simp at hx; omega))
 have HMA:=Lib.hid (show ModAt w5 (fun x=>x < w5.heap.size) m (.agg #[str m.name,.slice aia m.imports.length cia,.slice ava m.vars.length cva,.slice apa m.procs.length cpa,.slice aba m.body.len cba]) from ((HMX.out.kept hcy_w5 (by simp)).mono fun x hx=>by have:=hcy_w5.size; have : x < w4.heap.size:=hx; omega))
 have hlt_w5 : w4.heap.size < w5.heap.size:=by have h1:=hc_wT.size; have h2:=hcx_w5.size; omega
 have hsn_w5:SeenAt w5 (fun x=>x < w5.heap.size) (seenA []) (.map (some w4.heap.size)):=by
  have h0:=hin_w5
  have h1:=hcx_w5.size
  refine SeenIn.at_ (G:=fun x=>w4.heap.size < x∧x < w5.heap.size) ?_ (fun x hx=>hx.2) hlt_w5
  exact (seen_lt h0)
 have HK:=Lib.hid (ccheck_any m HFM.out (seenA []) (fun x=>x < w5.heap.size) _ _ w5 (fun _ h=>h) HMA.out hsn_w5)
 rw [HC2.out] at HK
 have HCY:=Lib.hid hcy_w5
 clear hin_wN hc_wT hsy_wT hrun_w5 hin_w5 hcx_w5 hsn_w5 hcy_w5 hc_wN hlt_w5 hs_wN hwT
 go_wp2_with fail
 clear hwN hr_w5 x0 x1 x2 x3 x4
 refine HK.out.mono ?_; rintro _ w6 ⟨hc6,b6,rfl,_,hb6⟩
 have HCZ:=Lib.hid (show Chg [] wF w6 from (HCZ.out.then HCY.out).then hc6)
 have HMX:=Lib.hid (show ModAt w6 (fun x=>x < w6.heap.size) m _ from (HMA.out.kept hc6 (by simp)).mono fun x hx=>by have:=hc6.size; have : x < w5.heap.size:=hx; omega)
 have HTL:=Lib.hid (tell_at 7 b6 w6 (HG.out.kept (HCF.out.then HCZ.out) (by simp)) (hb6.cell 0 _ rfl))
 clear hc6 hb6
 go_wp2_with fail
 refine HTL.out.mono ?_; rintro _ w7 ⟨rfl,hc7⟩
 have HCZ:=Lib.hid (show Chg [] wF w7 from HCZ.out.then hc7)
 have HMX:=Lib.hid (show ModAt w7 (fun x=>x < w7.heap.size) m (.agg #[str m.name,.slice aia m.imports.length cia,.slice ava m.vars.length cva,.slice apa m.procs.length cpa,.slice aba m.body.len cba]) from (HMX.out.kept hc7 (by simp)).mono fun x hx=>by have:=hc7.size; have : x < w6.heap.size:=hx; omega)
 clear hc7
 have x0 : w7.cell? ⟨w1.heap.size,0,none⟩=_:=(HBF.out.kept HCZ.out (by simp)).cell 0 _ rfl
 have x1 : w7.cell? ⟨w1.heap.size,1,none⟩=_:=(HBF.out.kept HCZ.out (by simp)).cell 1 _ rfl
 have x2 : w7.cell? ⟨w1.heap.size,2,none⟩=_:=(HBF.out.kept HCZ.out (by simp)).cell 2 _ rfl
 have x3 : w7.cell? ⟨w1.heap.size,3,none⟩=_:=(HBF.out.kept HCZ.out (by simp)).cell 3 _ rfl
 have x4 : w7.cell? ⟨w1.heap.size,4,none⟩=_:=(HBF.out.kept HCZ.out (by simp)).cell 4 _ rfl
 have HK:=Lib.hid (ccheck_any m HFM.out (fun _=>none) (fun x=>x < w7.heap.size) _ (.map none) w7 (fun _ h=>h) HMX.out (.inl ⟨rfl,fun _=>rfl⟩))
 rw [HC3.out] at HK
 go_wp2_with fail
 clear x0 x1 x2 x3 x4
 refine HK.out.mono ?_; rintro _ w8 ⟨hc8,rfl⟩
 have HCZ:=Lib.hid (show Chg [] wF w8 from HCZ.out.then hc8)
 have HTL:=Lib.hid (tell_errno 8 w8 (HG.out.kept (HCF.out.then HCZ.out) (by simp)))
 clear hc8
 go_wp2_with fail
 refine HTL.out.mono ?_; rintro _ w9 ⟨rfl,hc9⟩
 have HCZ:=Lib.hid (show Chg [] wF w9 from HCZ.out.then hc9)
 clear hc9
 go_wp2_with fail
 go_ret
 exact ⟨rfl,HCF.out.then HCZ.out⟩
end Go.Proofs.YtilhhkokdfajiaaGreatDoor
