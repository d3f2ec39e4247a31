/- Some texts in one. -/
import Derived.Test.YtilhhkokdfajiaaGreatDoorI15
import Derived.Test.YtilhhkokdfajiaaGreatDoorI17
import Derived.Test.YtilhhkokdfajiaaGreatDoorI20
namespace Go.Mq.Used
open Go Go.RowKit Go.Mq Go.Mq.Tree
structure UB (w0:World) (bF bL bE:Nat) (g:List UInt8):Prop where
 f:Blk w0 bF #[str g] 9
 e:Blk w0 bE #[.func (.func 27) #[] #[ptr bF,ptr bL,ptr bE]] 79
 nf : bF≠bL
 ne : bE≠bL
 lt : bL < w0.heap.size
structure UseSt (w0:World) (bL:Nat) (lv:Value) (w:World) (l:List (List UInt8)):Prop where
 chg:Chg [bL] w0 w
 box:Blk w bL #[lv] 22
 own : w.ownsRow 0 9 1 lv l.length (l.map str)
 past : ∀ g∈blk lv,w0.heap.size≤g
structure UMv (bL:Nat) (lv:Value) (w:World) (lv':Value) (w':World):Prop where
 chg:Chg (bL :: blk lv) w w'
 mv : ∀ g∈blk lv',g∈blk lv∨w.heap.size≤g
theorem UMv.refl (bL:Nat) (lv:Value) (w:World):UMv bL lv w lv w:=⟨Chg.refl _ _,fun _ h=>.inl h⟩
theorem UMv.trans {bL:Nat} {lv lv1 lv2:Value} {w w1 w2:World} (h:UMv bL lv w lv1 w1) (k:UMv bL lv1 w1 lv2 w2):UMv bL lv w lv2 w2:=by
 refine ⟨h.chg.trans k.chg fun x hx=>?_,fun g hg=>?_⟩
 ·rcases List.mem_cons.1 hx with rfl | hx
  ·exact .inl (by simp)
  ·rcases h.mv x hx with h1 | h1
   ·exact .inl (by simp [h1])
   ·exact .inr h1
 ·rcases k.mv g hg with h1 | h1
  ·exact h.mv g h1
  ·exact .inr (by have:=h.chg.size; omega)
theorem UMv.kept {bL:Nat} {lv lv1:Value} {w w1 w2:World} (h:UMv bL lv w lv1 w1) (hc:Chg [] w1 w2):UMv bL lv w lv1 w2:=⟨h.chg.then hc.weak,h.mv⟩
theorem UseSt.kept {w0:World} {bL:Nat} {lv:Value} {w w':World} {l:List (List UInt8)} (h:UseSt w0 bL lv w l) (hc:Chg [] w w'):UseSt w0 bL lv w' l:=
 ⟨h.chg.then hc.weak,h.box.kept hc (by simp),owns_kept h.own hc (fun _ _ h=>by cases h),h.past⟩
def UseTo (w0:World) (bL:Nat) (lv:Value) (w:World) (l':List (List UInt8)) (e:Ending) (w':World):Prop:=e = .returned (.tuple #[]) ∧ ∃ lv',UseSt w0 bL lv' w' l'∧UMv bL lv w lv' w'
theorem touch_yes {g m n:List UInt8} {l:List (List UInt8)} (h1 : m=g) (h2 : g≠[]) (h3 : n∉l) : touch g m n l=l ++ [n]:=by rw [touch,if_pos ⟨h1,h2,h3⟩]
theorem touch_no {g m n:List UInt8} {l:List (List UInt8)} (h : ¬ (m=g∧g≠[]∧n∉l)) : touch g m n l=l:=by rw [touch,if_neg h]
end Go.Mq.Used
namespace Go.Proofs.YtilhhkokdfajiaaGreatDoor
open Go Go.RowKit Go.Mq Go.Mq.Tree Go.Mq.Used
set_option maxRecDepth 100000
set_option maxHeartbeats 4000000
def UKid (w0:World) (bF bL bE:Nat) (g:List UInt8) (u:Value):Option E→Prop
 | none=>u=nilp
 | some x=>∃ b,u=ptr b ∧ ∀ w lv l,UseSt w0 bL lv w l→l.length + cntE x≤1000→Calls Tryz.prog 27 #[ptr b,ptr bF,ptr bL,ptr bE] w (UseTo w0 bL lv w (useE g x l))
def UKids (w0:World) (bF bL bE:Nat) (g:List UInt8):List Value→List (Option E)→Prop
 | [],os=>os=[]
 | u :: us,os=>∃ o os',os=o :: os'∧UKid w0 bF bL bE g u o∧UKids w0 bF bL bE g us os'
theorem UKids.one {w0:World} {bF bL bE:Nat} {g:List UInt8} : ∀ {us:List Value} {os:List (Option E)},UKids w0 bF bL bE g us os → ∀ x∈us,x.oneCell'=true
 | [],_,_=>by simp
 | u :: us,_,h=>by
  obtain ⟨o,os',rfl,hk,h⟩:=h
  intro x hx
  rcases List.mem_cons.1 hx with rfl | hx
  ·cases o with
   | none=>rw [show x=nilp from hk]; rfl
   | some y=>obtain ⟨b,rfl,_⟩:=hk; rfl
  ·exact h.one x hx
theorem used_nil (bF bL bE:Nat) (w:World):Calls Tryz.prog 27 #[nilp,ptr bF,ptr bL,ptr bE] w (fun e w'=>e = .returned (.tuple #[])∧w'=w):=by
 go_enter Tryz.func27,Tryz.ntmps27
 go_wp2_with fail
 refine bodyPost_ret (v:=.tuple #[]) (results_none rfl _ _ _) rfl ?_
 exact ⟨rfl,rfl⟩
theorem used_node (g:List UInt8) (w0:World) (bF bL bE:Nat) (hB:UB w0 bF bL bE g) (F:Nat→Prop) (hFL : ∀ x,F x→x≠bL) (be:Nat) (c0 c1 c2 c5:Value) (ou ov:Option Addr) (m n:List UInt8) (a:Option Addr) (kk:Nat) (vs:List Value) (os:List (Option E))
  (hx:Blk w0 be #[c0,c1,c2,str m,str n,c5,.pointer ou,.pointer ov,.slice a vs.length kk] 83) (hbe:F be) (hat:Row w0 F a vs) (hfew : vs.length≤1000) (hks:UKids w0 bF bL bE g (.pointer ou :: .pointer ov :: vs) os) (w:World) (lv1:Value) (l:List (List UInt8)) (hst:UseSt w0 bL lv1 w l) (hlen : (touch g m n l).length + (os.map cntO).sum≤1000) :
  Calls Tryz.prog 27 #[ptr be,ptr bF,ptr bL,ptr bE] w (UseTo w0 bL lv1 w (os.foldl (fun l o=>useO g o l) (touch g m n l))):=by
 have HB:=Lib.hid hB; have HX:=Lib.hid hx; have HAT:=Lib.hid hat; have HKS:=Lib.hid hks; have HST:=Lib.hid hst; have HMV:=Lib.hid (UMv.refl bL lv1 w)
 have hnL:=hFL be hbe
 have hltL:=hB.lt
 have hl1000 : l.length≤1000:=by
  rw [touch] at hlen
  split at hlen
  ·simp at hlen; omega
  ·omega
 have HBE:=Lib.hid (show be < w0.heap.size from hx.lt)
 clear hB hx hat hks hst
 obtain ⟨tgt,htgt⟩ : ∃ t,t=os.foldl (fun l o=>useO g o l) (touch g m n l):=⟨_,rfl⟩
 rw [← htgt]
 by_cases h0 : m=g∧g≠[]
 rotate_left
 focus
  have htn : touch g m n l=l:=touch_no fun h=>h0 ⟨h.1,h.2.1⟩
  rw [htn] at htgt hlen
  have HTG:=Lib.hid htgt; have HLN:=Lib.hid hlen
  clear htgt htn hlen
  by_cases h1 : m=g
  focus
   have h2b : (g == [])=true:=by simpa using fun h=>h0 ⟨h1,h⟩
   have h1':=h1.symm
   subst h1'
   clear h1
  rotate_left
  focus
   have h1b : (m == g)=false:=by simpa using h1
  all_goals
   go_enter Tryz.func27,Tryz.ntmps27
   go_wp2_with fail
   obtain ⟨wK,hwD⟩ : ∃ x,x=w.drew:=⟨_,rfl⟩
   have hWD:Chg [] w wK:=by rw [hwD]; exact (Chg.refl [] w).drew
   have HST:=Lib.hid (HST.out.kept hWD); have HMV:=Lib.hid (HMV.out.kept hWD)
   clear hWD
   have x3 : wK.cell? ⟨be,3,none⟩=_:=(HX.out.kept HST.out.chg (by simpa using hnL)).cell 3 _ rfl
   have x4 : wK.cell? ⟨be,4,none⟩=_:=(HX.out.kept HST.out.chg (by simpa using hnL)).cell 4 _ rfl
   have f0 : wK.cell? ⟨bF,0,none⟩=_:=(HB.out.f.kept HST.out.chg (by simpa using HB.out.nf)).cell 0 _ rfl
   refine wp_region_C [] rfl (by kernel_rfl) ?_
   rw [← hwD]
   clear hwD
   have hS:Chg [] wK wK:=Chg.refl _ _
   repeat ((with_reducible refine gX ?_); (first | refine wpX_nil ?_ | refine sK ?_ | refine sM fun _ _=>?_ | refine sL fun _ _=>?_ | refine sE fun _ _=>?_); go_wp2_with fail)
   clear hS x3 x4 f0
   go_wp2_with fail
 rotate_left 2
 focus
  obtain ⟨h1,h2⟩:=h0
  by_cases h3 : n∈l
  focus
   have htn : touch g m n l=l:=touch_no fun h=>h.2.2 h3
   have h3b : decide (n∈l)=true:=by simpa using h3
  rotate_left
  focus
   have htn : touch g m n l=l ++ [n]:=touch_yes h1 h2 h3
   have h3b : decide (n∈l)=false:=by simpa using h3
  all_goals
   rw [htn] at htgt hlen
   have HTG:=Lib.hid htgt; have HLN:=Lib.hid hlen
   clear htgt htn hlen
   have h2b : (g == [])=false:=by simpa using h2
   have h1':=h1.symm
   subst h1'
   clear h1
   go_enter Tryz.func27,Tryz.ntmps27
   go_wp2_with fail
   obtain ⟨wD,hwD⟩ : ∃ x,x=w.drew:=⟨_,rfl⟩
   have hWD:Chg [] w wD:=by rw [hwD]; exact (Chg.refl [] w).drew
   have HST:=Lib.hid (HST.out.kept hWD); have HMV:=Lib.hid (HMV.out.kept hWD)
   clear hWD
   have x3 : wD.cell? ⟨be,3,none⟩=_:=(HX.out.kept HST.out.chg (by simpa using hnL)).cell 3 _ rfl
   have x4 : wD.cell? ⟨be,4,none⟩=_:=(HX.out.kept HST.out.chg (by simpa using hnL)).cell 4 _ rfl
   have f0 : wD.cell? ⟨bF,0,none⟩=_:=(HB.out.f.kept HST.out.chg (by simpa using HB.out.nf)).cell 0 _ rfl
   have hlv:=HST.out.own
   obtain ⟨la,lc,rfl⟩:=slice_of_owns hlv
   have l0 : wD.cell? ⟨bL,0,none⟩=_:=HST.out.box.cell 0 _ rfl
   obtain ⟨na,nc,hnv,hnc,hnrow⟩:=Row.of_owns hlv (F:=fun _=>True) (fun _ _=>trivial)
   cases hnv
   have HCT:=Lib.hid (contains_in l hl1000 n _ (.slice la l.length lc) wD ⟨_,_,rfl,hnc,hnrow⟩)
   rw [h3b] at HCT
   clear hlv hnrow hnc
   refine wp_region_C [] rfl (by kernel_rfl) ?_
   rw [← hwD]
   clear hwD
   have hS:Chg [] wD wD:=Chg.refl _ _
   repeat ((with_reducible refine gX ?_); (first | refine wpX_nil ?_ | refine sK ?_ | refine sM fun _ _=>?_ | refine sL fun _ _=>?_ | refine sE fun _ _=>?_); go_wp2_with fail)
   refine HCT.out.mono ?_; rintro _ _ ⟨rfl,hw⟩; have hw:=hw.symm; subst hw
   go_wp2_with fail
   refine And.intro hS ?_
   repeat ((with_reducible refine gX ?_); (first | refine wpX_nil ?_ | refine sK ?_ | refine sM fun _ _=>?_ | refine sL fun _ _=>?_ | refine sE fun _ _=>?_); go_wp2_with fail)
   clear hS x3 x4 f0 l0 h2b h3b
   go_wp2_with fail
  focus
   have hl2 : (l ++ [n]).length≤1000:=by have:=HLN.out; omega
   rw [List.length_append,List.length_singleton] at hl2
   obtain ⟨wU,hwU⟩ : ∃ x,x=wD:=⟨_,rfl⟩
   subst hwU
   obtain ⟨wE,hwE⟩ : ∃ x,x=wU.drew:=⟨_,rfl⟩
   have hWD:Chg [] wU wE:=by rw [hwE]; exact (Chg.refl [] wU).drew
   have HST:=Lib.hid (HST.out.kept hWD); have HMV:=Lib.hid (HMV.out.kept hWD)
   clear hWD
   have x4 : wE.cell? ⟨be,4,none⟩=_:=(HX.out.kept HST.out.chg (by simpa using hnL)).cell 4 _ rfl
   have l0 : wE.cell? ⟨bL,0,none⟩=_:=HST.out.box.cell 0 _ rfl
   have HOD:=Lib.hid HST.out.own
   have hPAST:=HST.out.past
   have hltE : w0.heap.size≤wE.heap.size:=HST.out.chg.size
   have hbv : bL∉blk (.slice la l.length lc):=fun hm=>by have:=hPAST _ hm; omega
   have hlve:=owns_lt HST.out.own
   have hnv : be∉blk (.slice la l.length lc):=fun hm=>by have:=hPAST _ hm; have:=HBE.out; omega
   have Z1:=Lib.hid (Zone.of (X:=blk (.slice la l.length lc)) (w0:=wE) l0 hbv); have Z2:=Lib.hid (Zone.of (X:=blk (.slice la l.length lc)) (w0:=wE) x4 hnv)
   have HBV:=Lib.hid hbv; have HPAST:=Lib.hid hPAST; have HLVE:=Lib.hid hlve
   have hbe2 : be≠wE.heap.size:=by have:=HBE.out; omega
   have hbl2 : bL≠wE.heap.size:=by omega
   clear hnv hbv hPAST hlve
   refine wp_region_T (blk (.slice la l.length lc)) rfl (by kernel_rfl) rfl ?_
   rw [← hwE]
   clear hwE
   have hS:Chg (blk (.slice la l.length lc)) wE wE:=Chg.refl _ _
   repeat ((with_reducible refine gX ?_); (first | refine wpX_nil ?_ | refine sK ?_ | refine sM fun _ _=>?_ | refine sL (hz:=by first | exact Z1.out | exact Z2.out) fun _ _=>?_ | refine sE fun _ _=>?_); go_wp2_with fail)
   refine And.intro (hS.alloc _) ?_
   have hS1:Chg (blk (.slice la l.length lc)) wE (wE.alloc (.cells #[str n] 9)):=hS.alloc _
   repeat ((with_reducible refine gX ?_); (first | refine wpX_nil ?_ | refine sK ?_ | refine sM fun _ _=>?_ | refine sL (hz:=by first | exact Z1.out | exact Z2.out) fun _ _=>?_ | refine sE fun _ _=>?_); go_wp2_with fail)
   refine wpX_append _ _ 22 rfl rfl rfl 9 (.string ⟨#[]⟩) 1 16 infoStrC Tryz.underlying22 rfl (by decide) (.slice la l.length lc) l.length (l.map str) rfl (owns_kept HOD.out ((Chg.refl [] _).alloc _) (fun _ _ h=>by cases h)) ⟨wE.heap.size,0,none⟩ 1 1 [str n] rfl rfl (cells_new _ _ _) (by simp [Value.oneCell']) (by omega) (by unfold maxLen; omega) ?_
   intro v4 w4 ho4 hc4 hm4
   have hS4:Chg (blk (.slice la l.length lc)) wE w4:=(hS.alloc _).then hc4
   obtain ⟨va,vc,rfl⟩:=slice_of_owns ho4
   have hb4:=HST.out.box.kept hS4 HBV.out
   have c4:=hb4.cell 0 _ rfl; have f4:=hb4.frozen 0
   obtain ⟨wG,hwG⟩ : ∃ x,w4.setCell ⟨bL,0,none⟩ (.slice va (l.length + 1) vc)=x:=⟨_,rfl⟩
   have hbG:Blk wG bL #[.slice va (l.length + 1) vc] 22:=by rw [← hwG]; simpa using hb4.set 0 (.slice va (l.length + 1) vc)
   have hcG:Chg [bL] w4 wG:=by rw [← hwG]; exact Chg.set1 _ _ _ _
   have hmv4 : ∀ g∈blk (.slice va (l.length + 1) vc),g∈blk (.slice la l.length lc)∨wE.heap.size≤g:=fun g hg=>by
    rcases hm4 g hg with h | h
    ·exact .inl h
    ·simp at h; exact .inr (by omega)
   have hpast4 : ∀ g∈blk (.slice va (l.length + 1) vc),w0.heap.size≤g:=fun g hg=>by
    rcases hmv4 g hg with h | h
    ·exact HPAST.out g h
    ·omega
   have hoG : wG.ownsRow 0 9 1 (.slice va (l.length + 1) vc) (l ++ [n]).length ((l ++ [n]).map str):=by
    have h1:=owns_kept ho4 hcG (fun g hg hm=>by have:=hpast4 g hg; simp at hm; omega)
    rw [List.map_append,List.length_append]; exact h1
   have hcEG:Chg (bL :: blk (.slice la l.length lc)) wE wG:=(hS4.mono fun x hx=>.inl (by simp [hx])).trans hcG (fun x hx=>.inl (by simp at hx; simp [hx]))
   have HSTG:=Lib.hid (show UseSt w0 bL (.slice va (l.length + 1) vc) wG (l ++ [n]) from ⟨HST.out.chg.trans hcEG (fun x hx=>by
    rcases List.mem_cons.1 hx with rfl | hx
    ·exact .inl (by simp)
    ·exact .inr (HPAST.out x hx)),hbG,hoG,hpast4⟩)
   have HMVG:=Lib.hid (HMV.out.trans ⟨hcEG,hmv4⟩)
   clear ho4 hc4 hm4 hb4 hbG hcG hmv4 hpast4 hoG hcEG
   refine And.intro hS4 ?_
   repeat ((with_reducible refine gX ?_); (first | refine wpX_nil ?_ | refine sK ?_ | refine sM fun _ _=>?_ | refine sL (hz:=by first | exact Z1.out | exact Z2.out) fun _ _=>?_ | refine sE fun _ _=>?_); go_wp2_with fail)
   refine stepX_ef rfl rfl (fun _ _=>?_)
   change Oper.wp _ (Oper.mk ..) ..
   go_wp2_with fail
   clear hwG c4 f4 hS hS1 hS4 x4 l0 Z1 Z2
   have HST:=HSTG; have HMV:=HMVG
   clear HSTG HMVG
   obtain ⟨lv1,hlv1⟩ : ∃ x,x=Value.slice va (l.length + 1) vc:=⟨_,rfl⟩
   rw [← hlv1] at HST HMV
   clear hlv1
   obtain ⟨wK,rfl⟩ : ∃ x,x=wG:=⟨_,rfl⟩
  rotate_left
  focus
   have HMV0:=HMV
   clear HMV
   obtain ⟨lv1,hlv1⟩ : ∃ x,x=Value.slice la l.length lc:=⟨_,rfl⟩
   have HMV:=Lib.hid (show UMv bL (.slice la l.length lc) w lv1 wD by rw [hlv1]; exact HMV0.out)
   rw [← hlv1] at HST
   clear hlv1 HMV0
   obtain ⟨wK,rfl⟩ : ∃ x,x=wD:=⟨_,rfl⟩
 all_goals
  obtain ⟨wT,hwD⟩ : ∃ x,x=wK.drew:=⟨_,rfl⟩
  have hWD:Chg [] wK wT:=by rw [hwD]; exact (Chg.refl [] wK).drew
  have HST:=Lib.hid (HST.out.kept hWD); have HMV:=Lib.hid (HMV.out.kept hWD)
  clear hWD
  have x6 : wT.cell? ⟨be,6,none⟩=_:=(HX.out.kept HST.out.chg (by simpa using hnL)).cell 6 _ rfl
  have x7 : wT.cell? ⟨be,7,none⟩=_:=(HX.out.kept HST.out.chg (by simpa using hnL)).cell 7 _ rfl
  have x8 : wT.cell? ⟨be,8,none⟩=_:=(HX.out.kept HST.out.chg (by simpa using hnL)).cell 8 _ rfl
  have hown : (wT.alloc (.cells #[.pointer ou,.pointer ov] 80)).ownsRow 0 80 1 (.slice (some ⟨wT.heap.size,0,none⟩) 2 2) 2 [.pointer ou,.pointer ov]:=⟨rfl,.inr ⟨wT.heap.size,2,#[.pointer ou,.pointer ov],rfl,Nat.zero_le _,heap_alloc_new wT _,Nat.le_refl _,by unfold maxLen; omega,rfl,rfl⟩⟩
  have HOWN:=Lib.hid hown
  have hca:Chg [] wT (wT.alloc (.cells #[.pointer ou,.pointer ov] 80)):=(Chg.refl _ _).alloc _
  have HATD:=Lib.hid (show At (wT.alloc (.cells #[.pointer ou,.pointer ov] 80)) a vs from ((HAT.out.kept HST.out.chg (fun x hx hF=>by simp at hx; subst hx; exact hFL _ hF rfl)).kept hca (by simp)).at_)
  have HONE:=Lib.hid (show ∀ x∈vs,x.oneCell'=true from fun x hx=>HKS.out.one x (by simp [hx]))
  obtain ⟨US,hUS⟩ : ∃ U,U=[.pointer ou,.pointer ov] ++ vs:=⟨_,rfl⟩
  have hUL:US.length=2 + vs.length:=by rw [hUS]; simp; omega
  have HKU:=Lib.hid (show UKids w0 bF bL bE g US os by rw [hUS]; exact HKS.out)
  have HUS:=Lib.hid hUS
  have hbe : be≠wT.heap.size:=by have:=(HX.out.kept HST.out.chg (by simpa using hnL)).lt; omega
  have x8a:=hca.cellSome x8 (by simp)
  have hsT : w0.heap.size≤wT.heap.size:=HST.out.chg.size
  clear hown hca hUS
  refine wp_region_C [] rfl (by kernel_rfl) ?_
  rw [← hwD]
  clear hwD
  have hS:Chg [] wT wT:=Chg.refl _ _
  repeat ((with_reducible refine gX ?_); (first | refine wpX_nil ?_ | refine sK ?_ | refine sM fun _ _=>?_ | refine sL fun _ _=>?_ | refine sE fun _ _=>?_); go_wp2_with fail)
  refine And.intro (hS.alloc _) ?_
  have hS1:Chg [] wT (wT.alloc (.cells #[.pointer ou,.pointer ov] 80)):=hS.alloc _
  repeat ((with_reducible refine gX ?_); (first | refine wpX_nil ?_ | refine sK ?_ | refine sM fun _ _=>?_ | refine sL fun _ _=>?_ | refine sE fun _ _=>?_); go_wp2_with fail)
  refine wpX_append_any _ _ 81 rfl rfl rfl 80 (.pointer none) 1 8 infoPtr Tryz.underlying81 rfl (by decide) (.slice (some ⟨wT.heap.size,0,none⟩) 2 2) 2 [.pointer ou,.pointer ov] rfl HOWN.out a vs.length kk vs rfl (by simp) HATD.out HONE.out (by omega) (by unfold maxLen; omega) ?_
  intro v2 w2 ho2 hc2 hm2
  have hS:Chg [] wT w2:=((Chg.refl [] wT).alloc _).trans hc2 (fun x hx=>.inr (by simp [blk] at hx; omega))
  rw [← HUS.out] at ho2
  obtain ⟨ra,rc,rfl,hrc,hrow⟩:=Row.of_owns ho2 (F:=fun b=>wT.heap.size≤b) (fun b hb=>by
   rcases hm2 b hb with h | h
   ·simp [blk] at h; omega
   ·simp at h; omega)
  have HROW:=Lib.hid hrow
  have HBL:=Lib.hid (show ∀ x∈bL :: blk lv1,¬ wT.heap.size≤x from fun x hx=>by
   rcases List.mem_cons.1 hx with rfl | hx
   ·omega
   ·have:=owns_lt HST.out.own x hx; omega)
  have HST:=Lib.hid (HST.out.kept hS); have HMV:=Lib.hid (HMV.out.kept hS)
  clear ho2 hc2 hrow x6 x7 x8 x8a hbe hm2
  refine And.intro hS ?_
  clear hS1
  repeat ((with_reducible refine gX ?_); (first | refine wpX_nil ?_ | refine sK ?_ | refine sM fun _ _=>?_ | refine sL fun _ _=>?_ | refine sE fun _ _=>?_); go_wp2_with fail)
  clear hS
  go_loopw [6,50] (fun _ i wr=>∃ (k:Nat) (us2:List Value) (os2:List (Option E)) (lv2:Value) (l2:List (List UInt8)),i = .int .i64 k∧US.drop k=us2∧k≤US.length∧UKids w0 bF bL bE g us2 os2∧UseSt w0 bL lv2 wr l2∧UMv bL lv1 w2 lv2 wr∧os2.foldl (fun l o=>useO g o l) l2=tgt∧l2.length + (os2.map cntO).sum≤1000) (fun _ i _=>US.length - (intOf i).toNat)
  case atStart=>exact ⟨0,US,os,lv1,_,rfl,rfl,Nat.zero_le _,HKU.out,HST.out,UMv.refl _ _ _,HTG.out.symm,HLN.out⟩
  case round=>
   obtain ⟨k,us2,os2,lv2,l2,rfl,hdr,hkl,hks,hst,hmv,htot,hl2⟩:=hrel
   have HS2:=Lib.hid hst; have HM2:=Lib.hid hmv; have HTOT:=Lib.hid htot; have HL2:=Lib.hid hl2
   clear hst hmv htot hl2
   by_cases hlt : k < 2 + vs.length
   ·obtain ⟨x,hx⟩ : ∃ x,US[k]?=some x:=⟨US[k]'(by omega),List.getElem?_eq_getElem (by omega)⟩
    have hd2 : us2=x :: US.drop (k + 1):=by
     rw [← hdr,List.drop_eq_getElem_cons (by omega)]
     congr 1
     rw [List.getElem?_eq_getElem (by omega)] at hx
     exact Option.some.inj hx
    rw [hd2] at hks
    obtain ⟨o,os3,rfl,hkid,hks⟩:=hks
    obtain ⟨rb,ro,rfl,hcell⟩:=(HROW.out.kept HM2.out.chg HBL.out).at_ (by omega)
    have d0:=hcell k x hx
    have e0:=(HB.out.e.kept HS2.out.chg (by simpa using HB.out.ne)).cell 0 _ rfl
    have HKS3:=Lib.hid hks
    clear hdr hd2 hks hcell hx
    cases o with
    | none=>
     have hk0 : x=nilp:=hkid
     subst hk0
     go_wp2_with fail
     refine (used_nil bF bL bE wr).mono ?_; rintro _ _ ⟨rfl,hw⟩; have hw:=hw.symm; subst hw
     go_wp2_with fail
     refine ⟨⟨k + 1,_,os3,lv2,l2,by go_num,rfl,by omega,HKS3.out,HS2.out,HM2.out,HTOT.out,by have:=HL2.out; simp only [List.map_cons,List.sum_cons] at this; omega⟩,by simp [intOf]; omega⟩
    | some y=>
     obtain ⟨b,rfl,hcall⟩:=hkid
     have HY:=Lib.hid (show (useE g y l2).length + (os3.map cntO).sum≤1000 from by have:=HL2.out; simp only [List.map_cons,List.sum_cons,cntO] at this; have:=useE_len g y l2; omega)
     have HCALL:=Lib.hid (hcall wr lv2 l2 HS2.out (by have:=HL2.out; simp only [List.map_cons,List.sum_cons,cntO] at this; omega))
     clear hcall
     go_wp2_with fail
     refine HCALL.out.mono ?_; rintro _ w4 ⟨rfl,lv4,hs4,hm4⟩
     have HS4:=Lib.hid hs4; have HM4:=Lib.hid (HM2.out.trans hm4)
     clear hs4 hm4 d0 e0
     go_wp2_with fail
     refine ⟨⟨k + 1,_,os3,lv4,useE g y l2,by go_num,rfl,by omega,HKS3.out,HS4.out,HM4.out,HTOT.out,HY.out⟩,by simp [intOf]; omega⟩
   ·have hde : us2=[]:=by rw [← hdr]; exact List.drop_eq_nil_of_le (by omega)
    rw [hde] at hks
    have hrs : os2=[]:=hks
    have HTOT:=Lib.hid (show l2=tgt by rw [← HTOT.out,hrs]; rfl)
    clear hdr hde hks hrs
    go_wp2_with fail
    refine bodyPost_end (results_none rfl _ _ _) rfl ?_
    rw [← HTOT.out]
    exact ⟨rfl,lv2,HS2.out,HMV.out.trans HM2.out⟩
end Go.Proofs.YtilhhkokdfajiaaGreatDoor
namespace Go.Proofs.YtilhhkokdfajiaaGreatDoor
open Go Go.RowKit Go.Mq Go.Mq.Tree Go.Mq.Used
open Go.Mq.Check (FewE argsN)
set_option maxRecDepth 100000
set_option maxHeartbeats 1000000
def UOf (w0:World) (bF bL bE:Nat) (g:List UInt8) (F:Nat→Prop) (e:E):Prop:=
 (∀ u,EAt w0 F e [u]→UKid w0 bF bL bE g u (some e)) ∧
 ∀ us,EAt w0 F e us → ∃ os:List (Option E),UKids w0 bF bL bE g us os∧(∀ l,os.foldl (fun l o=>useO g o l) l=useE g e l)∧(os.map cntO).sum=cntE e∧us.length=argsN e
section
variable {w0:World} {bF bL bE:Nat} {g:List UInt8} {F:Nat→Prop}
theorem UOf.one {e:E} (hx : e.isX) (h : ∀ u,EAt w0 F e [u]→UKid w0 bF bL bE g u (some e)):UOf w0 bF bL bE g F e:=by
 refine ⟨h,fun us he=>?_⟩
 have hus : ∃ u,us=[u]:=by
  cases e with
  | num p n=>obtain ⟨b,hb,_⟩:=he; exact ⟨_,hb⟩
  | var p m n=>obtain ⟨b,hb,_⟩:=he; exact ⟨_,hb⟩
  | item p m n i=>obtain ⟨b,_,hb,_⟩:=he; exact ⟨_,hb⟩
  | un p op x=>obtain ⟨b,_,hb,_⟩:=he; exact ⟨_,hb⟩
  | bin p op x y=>obtain ⟨b,_,_,hb,_⟩:=he; exact ⟨_,hb⟩
  | app p m n l=>obtain ⟨b,_,_,_,hb,_⟩:=he; exact ⟨_,hb⟩
  | nil=>exact hx.elim
  | cons _ _=>exact hx.elim
 obtain ⟨u,rfl⟩:=hus
 refine ⟨[some e],⟨_,_,rfl,h u he,rfl⟩,fun l=>rfl,by simp [cntO],?_⟩
 cases e <;> first | rfl | exact hx.elim
theorem ukid_nil:UKid w0 bF bL bE g nilp none:=rfl
theorem ukid_ptr {e:E} {u:Value} (h:UKid w0 bF bL bE g u (some e)) : ∃ b,u = .pointer (some ⟨b,0,none⟩):=by
 obtain ⟨b,hb,_⟩:=h; exact ⟨b,hb⟩
theorem used_all (hB:UB w0 bF bL bE g) (hFL : ∀ x,F x→x≠bL) (e:E):FewE e→UOf w0 bF bL bE g F e:=by
 induction e with
 | num p n=>
  refine fun _=>UOf.one trivial fun u he=>?_
  obtain ⟨b,hb,hF,hblk⟩:=he
  cases hb
  refine ⟨b,rfl,fun w lv l hst hl=>?_⟩
  have ht : touch g [] [] l=l:=touch_no fun h=>h.2.1 h.1.symm
  have:=used_node g w0 bF bL bE hB F hFL b _ _ _ _ none none [] [] none 0 [] [none,none] hblk hF (Row.nil _ _ _) (by simp) ⟨_,_,rfl,ukid_nil,_,_,rfl,ukid_nil,rfl⟩ w lv l hst (by rw [ht]; simp [cntO,cntE] at hl ⊢; omega)
  rw [ht] at this
  exact this
 | var p m n=>
  refine fun _=>UOf.one trivial fun u he=>?_
  obtain ⟨b,hb,hF,hblk⟩:=he
  cases hb
  refine ⟨b,rfl,fun w lv l hst hl=>?_⟩
  exact used_node g w0 bF bL bE hB F hFL b _ _ _ _ none none m n none 0 [] [none,none] hblk hF (Row.nil _ _ _) (by simp) ⟨_,_,rfl,ukid_nil,_,_,rfl,ukid_nil,rfl⟩ w lv l hst (by have:=touch_len g m n l; simp [cntO,cntE] at hl ⊢; omega)
 | item p m n i ih=>
  refine fun hf=>UOf.one trivial fun u he=>?_
  obtain ⟨b,v,hb,hF,hblk,hi⟩:=he
  cases hb
  have hkid:=(ih hf).1 v hi
  obtain ⟨bi,rfl⟩:=ukid_ptr hkid
  refine ⟨b,rfl,fun w lv l hst hl=>?_⟩
  exact used_node g w0 bF bL bE hB F hFL b _ _ _ _ (some ⟨bi,0,none⟩) none m n none 0 [] [some i,none] hblk hF (Row.nil _ _ _) (by simp) ⟨_,_,rfl,hkid,_,_,rfl,ukid_nil,rfl⟩ w lv l hst (by have:=touch_len g m n l; simp [cntO,cntE] at hl ⊢; omega)
 | un p op x ih=>
  refine fun hf=>UOf.one trivial fun u he=>?_
  obtain ⟨b,v,hb,hF,hblk,hi⟩:=he
  cases hb
  have hkid:=(ih hf).1 v hi
  obtain ⟨bi,rfl⟩:=ukid_ptr hkid
  refine ⟨b,rfl,fun w lv l hst hl=>?_⟩
  have ht : touch g [] [] l=l:=touch_no fun h=>h.2.1 h.1.symm
  have:=used_node g w0 bF bL bE hB F hFL b _ _ _ _ (some ⟨bi,0,none⟩) none [] [] none 0 [] [some x,none] hblk hF (Row.nil _ _ _) (by simp) ⟨_,_,rfl,hkid,_,_,rfl,ukid_nil,rfl⟩ w lv l hst (by rw [ht]; simp [cntO,cntE] at hl ⊢; omega)
  rw [ht] at this
  exact this
 | bin p op x y ih1 ih2=>
  refine fun hf=>UOf.one trivial fun u he=>?_
  obtain ⟨b,v,v2,hb,hF,hblk,hi,hj⟩:=he
  cases hb
  have hkid:=(ih1 hf.1).1 v hi
  have hkjd:=(ih2 hf.2).1 v2 hj
  obtain ⟨bi,rfl⟩:=ukid_ptr hkid
  obtain ⟨bj,rfl⟩:=ukid_ptr hkjd
  refine ⟨b,rfl,fun w lv l hst hl=>?_⟩
  have ht : touch g [] [] l=l:=touch_no fun h=>h.2.1 h.1.symm
  have:=used_node g w0 bF bL bE hB F hFL b _ _ _ _ (some ⟨bi,0,none⟩) (some ⟨bj,0,none⟩) [] [] none 0 [] [some x,some y] hblk hF (Row.nil _ _ _) (by simp) ⟨_,_,rfl,hkid,_,_,rfl,hkjd,rfl⟩ w lv l hst (by rw [ht]; simp [cntO,cntE] at hl ⊢; omega)
  rw [ht] at this
  exact this
 | app p m n a ih=>
  refine fun hf=>UOf.one trivial fun u he=>?_
  obtain ⟨b,ad,k,vs,hb,hF,hblk,_,hrow,hl0⟩:=he
  cases hb
  obtain ⟨os,hks,hfold,hcnt,hlen⟩:=(ih hf.2).2 vs hl0
  have hfa:=hf.1
  refine ⟨b,rfl,fun w lv l hst hl=>?_⟩
  have:=used_node g w0 bF bL bE hB F hFL b _ _ _ _ none none m n ad k vs (none :: none :: os) hblk hF hrow (by omega) ⟨_,_,rfl,ukid_nil,_,_,rfl,ukid_nil,hks⟩ w lv l hst (by have:=touch_len g m n l; simp only [List.map_cons,List.sum_cons,cntO,cntE,hcnt] at hl ⊢; omega)
  rw [List.foldl_cons,List.foldl_cons,hfold] at this
  exact this
 | nil=>exact fun _=>⟨fun u he=>(by cases (show [u]=[] from he)),fun us he=>⟨[],by rw [show us=[] from he]; rfl,fun l=>rfl,rfl,by rw [show us=[] from he]; rfl⟩⟩
 | cons x r ih1 ih2=>
  refine fun hf=>⟨fun u he=>?_,fun us he=>?_⟩
  ·obtain ⟨v,vs,hv,h1,h2⟩:=he
   simp only [List.cons.injEq] at hv
   obtain ⟨rfl,rfl⟩:=hv
   obtain ⟨os,hks,hfold,hcnt,_⟩:=(ih2 hf.2).2 [] h2
   have hrs : os=[]:=hks
   subst hrs
   obtain ⟨b,hb,hcall⟩:=(ih1 hf.1).1 u h1
   refine ⟨b,hb,fun w lv l hst hl=>?_⟩
   rw [useE,← hfold]
   exact hcall w lv l hst (by simp only [cntE] at hl; omega)
  ·obtain ⟨v,vs,rfl,h1,h2⟩:=he
   obtain ⟨os,hks,hfold,hcnt,hlen⟩:=(ih2 hf.2).2 vs h2
   exact ⟨some x :: os,⟨_,_,rfl,(ih1 hf.1).1 v h1,hks⟩,fun l=>by rw [List.foldl_cons,hfold]; rfl,by simp [cntO,cntE,hcnt],by simp [argsN,hlen]⟩
end
end Go.Proofs.YtilhhkokdfajiaaGreatDoor
namespace Go.Mq.Used
open Go Go.RowKit Go.Mq Go.Mq.Tree
open Go.Mq.Check (FewE FewS argsN)
def szS:S→Nat
 | .nil=>1
 | .set _ _ _ _ r=>szS r + 1
 | .ifs _ _ t e r=>szS t + szS e + szS r + 1
 | .whil _ _ t r=>szS t + szS r + 1
 | .ret _ _ r=>szS r + 1
 | .wri _ _ r=>szS r + 1
 | .call _ _ r=>szS r + 1
theorem szS_pos (s:S) : 1≤szS s:=by cases s <;> simp [szS]
theorem set7U {w:World} {b:Nat} (v0 v1 v2 v3 v4 v5 v6:Value) {u0 u1 u2 u3 u4 u5 u6:Value} {t:TypeId} (h:Blk w b #[u0,u1,u2,u3,u4,u5,u6] t) : ∃ wF,(((((((w.setCell ⟨b,0,none⟩ v0).setCell ⟨b,1,none⟩ v1).setCell ⟨b,2,none⟩ v2).setCell ⟨b,3,none⟩ v3).setCell ⟨b,4,none⟩ v4).setCell ⟨b,5,none⟩ v5).setCell ⟨b,6,none⟩ v6)=wF∧Chg [b] w wF∧Blk wF b #[v0,v1,v2,v3,v4,v5,v6] t:=
 ⟨_,rfl,((((((Chg.set1 _ _ _ _).then (Chg.set1 _ _ _ _)).then (Chg.set1 _ _ _ _)).then (Chg.set1 _ _ _ _)).then (Chg.set1 _ _ _ _)).then (Chg.set1 _ _ _ _)).then (Chg.set1 _ _ _ _),by
  have:=((((((h.set 0 v0).set 1 v1).set 2 v2).set 3 v3).set 4 v4).set 5 v5).set 6 v6
  simpa using this⟩
theorem cells7U {w:World} {F:Nat→Prop} {a:Option Addr} {cs1 cs':List Value} {c0 c1 c2 c3 c4 c5 c6:Value} {k:Nat} (h:Row w F a (cs1 ++ c0 :: c1 :: c2 :: c3 :: c4 :: c5 :: c6 :: cs')) (hl : cs1.length=k * 7) :
  ∃ bb off,a=some ⟨bb,off,none⟩∧w.cell? ⟨bb,off + k * 7,none⟩=some c0∧w.cell? ⟨bb,off + k * 7 + 1,none⟩=some c1∧w.cell? ⟨bb,off + k * 7 + 2,none⟩=some c2∧w.cell? ⟨bb,off + k * 7 + 3,none⟩=some c3∧w.cell? ⟨bb,off + k * 7 + 4,none⟩=some c4∧w.cell? ⟨bb,off + k * 7 + 5,none⟩=some c5∧w.cell? ⟨bb,off + k * 7 + 6,none⟩=some c6:=by
 obtain ⟨bb,off,rfl,hc⟩:=h.at_ (by simp only [List.length_append,List.length_cons]; omega)
 have g : ∀ i v,(c0 :: c1 :: c2 :: c3 :: c4 :: c5 :: c6 :: cs')[i]?=some v→w.cell? ⟨bb,off + k * 7 + i,none⟩=some v:=fun i v hv=>by
  rw [Nat.add_assoc]
  refine hc (k * 7 + i) v ?_
  rw [← hl,List.getElem?_append_right (by omega),Nat.add_sub_cancel_left]
  exact hv
 exact ⟨bb,off,rfl,by simpa using g 0 _ rfl,g 1 _ rfl,g 2 _ rfl,g 3 _ rfl,g 4 _ rfl,g 5 _ rfl,g 6 _ rfl⟩
structure SView (w:World) (F:Nat→Prop) (s:S) (cs:List Value) (oi:Option E) (v:E) (st se r:S) (c0 c1:Int) (nm:List UInt8) (ui uv:Value) (a1:Option Addr) (k1:Nat) (a2:Option Addr) (k2:Nat) (cs':List Value):Prop where
 cells : cs = .int .i64 c0 :: .int .i64 c1 :: str nm :: ui :: uv :: .slice a1 st.len k1 :: .slice a2 se.len k2 :: cs'
 index:OptAt w F oi ui
 value:EAt w F v [uv]
 then_:SlAt w F st (.slice a1 st.len k1)
 else_:SlAt w F se (.slice a2 se.len k2)
 rest:SAt w F r cs'
 use : ∀ g l,useS g s l=useS g r (useS g se (useS g st (useE g v (useO g oi l))))
 cnt : cntS s=cntO oi + cntE v + cntS st + cntS se + cntS r
 len : s.len=r.len + 1
 s1 : szS st < szS s
 s2 : szS se < szS s
 s3 : szS r < szS s
 few:FewS s→(∀ x,oi=some x→FewE x)∧FewE v∧(FewS st∧st.len≤1000)∧(FewS se∧se.len≤1000)∧FewS r
theorem slat_nil (w:World) (F:Nat→Prop):SlAt w F .nil (.slice none S.nil.len 0):=⟨none,0,[],rfl,Nat.le_refl _,Row.nil _ _ _,rfl⟩
theorem ustmt_view {w:World} {F:Nat→Prop} {s:S} {cs:List Value} (h:SAt w F s cs) (hn : s ≠ .nil) : ∃ oi v st se r c0 c1 nm ui uv a1 k1 a2 k2 cs',SView w F s cs oi v st se r c0 c1 nm ui uv a1 k1 a2 k2 cs':=by
 cases s with
 | nil=>exact absurd rfl hn
 | set p n i v r=>
  obtain ⟨ui,uv,cs',rfl,h2,h3,h4⟩:=h
  exact ⟨i,v,.nil,.nil,r,1,p,n,ui,uv,none,0,none,0,cs',rfl,h2,h3,slat_nil _ _,slat_nil _ _,h4,fun _ _=>rfl,by simp [cntS],rfl,by have:=szS_pos r; simp only [szS]; omega,by have:=szS_pos r; simp only [szS]; omega,by have:=szS_pos r; simp only [szS]; omega,fun hf=>⟨hf.1,hf.2.1,⟨trivial,by simp [S.len]⟩,⟨trivial,by simp [S.len]⟩,hf.2.2⟩⟩
 | ifs p v t e r=>
  obtain ⟨uv,a1,c1,ts,a2,c2,es,cs',rfl,h2,h3,h4,h5,h6,h7,h8,h9⟩:=h
  exact ⟨none,v,t,e,r,2,p,[],nilp,uv,a1,c1,a2,c2,cs',rfl,rfl,h2,⟨_,_,_,rfl,h3,h4,h5⟩,⟨_,_,_,rfl,h6,h7,h8⟩,h9,fun _ _=>rfl,by simp [cntS,cntO],rfl,by have:=szS_pos r; have:=szS_pos t; have:=szS_pos e; simp only [szS]; omega,by have:=szS_pos r; have:=szS_pos t; have:=szS_pos e; simp only [szS]; omega,by have:=szS_pos r; have:=szS_pos t; have:=szS_pos e; simp only [szS]; omega,fun hf=>⟨fun x hx=>(by cases hx),hf.1,⟨hf.2.1,hf.2.2.1⟩,⟨hf.2.2.2.1,hf.2.2.2.2.1⟩,hf.2.2.2.2.2⟩⟩
 | whil p v t r=>
  obtain ⟨uv,a1,c1,ts,cs',rfl,h2,h3,h4,h5,h6⟩:=h
  exact ⟨none,v,t,.nil,r,3,p,[],nilp,uv,a1,c1,none,0,cs',rfl,rfl,h2,⟨_,_,_,rfl,h3,h4,h5⟩,slat_nil _ _,h6,fun _ _=>rfl,by simp [cntS,cntO],rfl,by have:=szS_pos r; have:=szS_pos t; simp only [szS]; omega,by have:=szS_pos r; have:=szS_pos t; simp only [szS]; omega,by have:=szS_pos r; have:=szS_pos t; simp only [szS]; omega,fun hf=>⟨fun x hx=>(by cases hx),hf.1,⟨hf.2.1,hf.2.2.1⟩,⟨trivial,by simp [S.len]⟩,hf.2.2.2⟩⟩
 | ret p v r=>
  obtain ⟨uv,cs',rfl,h2,h3⟩:=h
  exact ⟨none,v,.nil,.nil,r,4,p,[],nilp,uv,none,0,none,0,cs',rfl,rfl,h2,slat_nil _ _,slat_nil _ _,h3,fun _ _=>rfl,by simp [cntS,cntO],rfl,by have:=szS_pos r; simp only [szS]; omega,by have:=szS_pos r; simp only [szS]; omega,by have:=szS_pos r; simp only [szS]; omega,fun hf=>⟨fun x hx=>(by cases hx),hf.1,⟨trivial,by simp [S.len]⟩,⟨trivial,by simp [S.len]⟩,hf.2⟩⟩
 | wri p v r=>
  obtain ⟨uv,cs',rfl,h2,h3⟩:=h
  exact ⟨none,v,.nil,.nil,r,5,p,[],nilp,uv,none,0,none,0,cs',rfl,rfl,h2,slat_nil _ _,slat_nil _ _,h3,fun _ _=>rfl,by simp [cntS,cntO],rfl,by have:=szS_pos r; simp only [szS]; omega,by have:=szS_pos r; simp only [szS]; omega,by have:=szS_pos r; simp only [szS]; omega,fun hf=>⟨fun x hx=>(by cases hx),hf.1,⟨trivial,by simp [S.len]⟩,⟨trivial,by simp [S.len]⟩,hf.2⟩⟩
 | call p v r=>
  obtain ⟨uv,cs',rfl,h2,h3⟩:=h
  exact ⟨none,v,.nil,.nil,r,6,p,[],nilp,uv,none,0,none,0,cs',rfl,rfl,h2,slat_nil _ _,slat_nil _ _,h3,fun _ _=>rfl,by simp [cntS,cntO],rfl,by have:=szS_pos r; simp only [szS]; omega,by have:=szS_pos r; simp only [szS]; omega,by have:=szS_pos r; simp only [szS]; omega,fun hf=>⟨fun x hx=>(by cases hx),hf.1,⟨trivial,by simp [S.len]⟩,⟨trivial,by simp [S.len]⟩,hf.2⟩⟩
theorem len_nil {s:S} (h : s.len=0) : s = .nil:=by
 cases s <;> first | rfl | (simp [S.len] at h)
end Go.Mq.Used
namespace Go.Proofs.YtilhhkokdfajiaaGreatDoor
open Go Go.RowKit Go.Mq Go.Mq.Tree Go.Mq.Used
open Go.Mq.Check (FewE FewS argsN)
set_option maxRecDepth 100000
set_option maxHeartbeats 4000000
theorem used_opt {w0:World} {bF bL bE:Nat} {g:List UInt8} {F:Nat→Prop} (hB:UB w0 bF bL bE g) (hFL : ∀ x,F x→x≠bL) {oi:Option E} {u:Value} (h:OptAt w0 F oi u) (hf : ∀ x,oi=some x→FewE x) (w:World) (lv:Value) (l:List (List UInt8)) (hst:UseSt w0 bL lv w l) (hl : l.length + cntO oi≤1000) :
  ∃ ou,u = .pointer ou∧Calls Tryz.prog 27 #[.pointer ou,ptr bF,ptr bL,ptr bE] w (UseTo w0 bL lv w (useO g oi l)):=by
 cases oi with
 | none=>
  have hu : u=nilp:=h
  subst hu
  refine ⟨none,rfl,(used_nil bF bL bE w).mono ?_⟩
  rintro _ _ ⟨rfl,rfl⟩
  exact ⟨rfl,lv,hst,UMv.refl _ _ _⟩
 | some x=>
  obtain ⟨b,rfl,hc⟩:=(used_all hB hFL x (hf x rfl)).1 u h
  exact ⟨_,rfl,hc w lv l hst hl⟩
theorem ubody {w0:World} {bF bL bE bB:Nat} {g:List UInt8} {F:Nat→Prop} (hB:UB w0 bF bL bE g) (hFL : ∀ x,F x→x≠bL) (_hF0 : ∀ x,F x→x < w0.heap.size) (hbb:Blk w0 bB #[.func (.func 28) #[] #[ptr bE,ptr bB]] 78) (hbL : bB≠bL) :
  ∀ (z:Nat) (s:S),szS s≤z→FewS s→s.len≤1000 → ∀ v,SlAt w0 F s v → ∀ w lv l,UseSt w0 bL lv w l→l.length + cntS s≤1000→Calls Tryz.prog 28 #[v,ptr bE,ptr bB] w (UseTo w0 bL lv w (useS g s l)):=by
 intro z
 induction z with
 | zero=>intro s hz; have:=szS_pos s; omega
 | succ z ih=>
  intro s hz hfew hlen v hv w lv l hst hln
  obtain ⟨a,c,cs,rfl,hac,hrow,hsat⟩:=hv
  have HB:=Lib.hid hB; have HBB:=Lib.hid hbb; have HROW:=Lib.hid hrow; have HST:=Lib.hid hst; have IH:=Lib.hid ih; have HFL:=Lib.hid hFL
  have HSAT:=Lib.hid hsat; have HFW:=Lib.hid hfew
  have hltL:=hB.lt
  obtain ⟨tgt,htgt⟩ : ∃ t,t=useS g s l:=⟨_,rfl⟩
  rw [← htgt]
  have HTG:=Lib.hid htgt
  clear hB hbb hrow hst ih hsat htgt hFL hfew
  go_enter Tryz.func28,Tryz.ntmps28
  go_wp2_with fail
  go_loopw [5,8] (fun _ i wr=>∃ (k:Nat) (r:S) (cs1 cs':List Value) (lv2:Value) (l2:List (List UInt8)),i = .int .i64 k∧cs=cs1 ++ cs'∧cs1.length=k * 7∧SAt w0 F r cs'∧k + r.len=s.len∧szS r≤szS s∧FewS r∧UseSt w0 bL lv2 wr l2∧UMv bL lv w lv2 wr∧useS g r l2=tgt∧l2.length + cntS r≤1000) (fun _ i _=>s.len - (intOf i).toNat)
  case atStart=>exact ⟨0,s,[],cs,lv,l,rfl,rfl,rfl,HSAT.out,by omega,Nat.le_refl _,HFW.out,HST.out,UMv.refl _ _ _,HTG.out.symm,hln⟩
  case round=>
   obtain ⟨k,r,cs1,cs',lv2,l2,rfl,hcs,hk7,hsr,hkr,hzr,hfr,hst2,hmv2,htot,hl2⟩:=hrel
   have HS2:=Lib.hid hst2; have HM2:=Lib.hid hmv2; have HTOT:=Lib.hid htot
   by_cases hlt : k < s.len
   ·have hrn : r ≠ .nil:=fun h=>by rw [h] at hkr; simp [S.len] at hkr; omega
    obtain ⟨oi,ev,st,se,r2,c0,c1,nm,ui,uv,a1,k1,a2,k2,cs2,hvw⟩:=ustmt_view hsr hrn
    have HVW:=Lib.hid hvw
    have hcells:=hvw.cells
    rw [hcells] at hcs
    rw [hcs] at HROW
    obtain ⟨bb,off,rfl,d0,d1,d2,d3,d4,d5,d6⟩:=cells7U (HROW.out.kept HS2.out.chg (fun x hx hF=>by simp at hx; subst hx; exact HFL.out _ hF rfl)) hk7
    have hfw:=hvw.few hfr
    have hcnt:=hvw.cnt
    have HHD:=Lib.hid (show r.len=r2.len + 1 from hvw.len)
    have HZ:=Lib.hid (show szS st≤z∧szS se≤z∧szS r2≤szS s from by have h1:=hvw.s1; have h2:=hvw.s2; have h3:=hvw.s3; omega)
    have HFW2:=Lib.hid hfw
    have hz:=Blk.new wr #[.int .i64 0,.int .i64 0,str [],nilp,nilp,nils,nils] 85
    obtain ⟨wA,hwA⟩ : ∃ w',wr.alloc (.cells #[.int .i64 0,.int .i64 0,str [],nilp,nilp,nils,nils] 85)=w':=⟨_,rfl⟩
    rw [hwA] at hz
    have hcA:Chg [] wr wA:=by rw [← hwA]; exact (Chg.refl _ _).alloc _
    obtain ⟨wF,hwF,hcF,hbF⟩:=set7U (.int .i64 c0) (.int .i64 c1) (str nm) ui uv (.slice a1 st.len k1) (.slice a2 se.len k2) hz
    have hcw:Chg [] wr wF:=hcA.trans hcF (fun x hx=>.inr (by simp at hx; omega))
    have z0:=hz.cell 0 _ rfl; have z1:=hz.cell 1 _ rfl; have z2:=hz.cell 2 _ rfl; have z3:=hz.cell 3 _ rfl; have z4:=hz.cell 4 _ rfl; have z5:=hz.cell 5 _ rfl; have z6:=hz.cell 6 _ rfl
    have y0:=hz.frozen 0; have y1:=hz.frozen 1; have y2:=hz.frozen 2; have y3:=hz.frozen 3; have y4:=hz.frozen 4; have y5:=hz.frozen 5; have y6:=hz.frozen 6
    have HSF:=Lib.hid (HS2.out.kept hcw); have HMF:=Lib.hid (HM2.out.kept hcw); have HBF:=Lib.hid hbF
    have HNB:=Lib.hid (show wr.heap.size∉bL :: blk lv2 from fun hm=>by
     rcases List.mem_cons.1 hm with h | h
     ·have:=HS2.out.chg.size; omega
     ·have:=owns_lt HS2.out.own _ h; omega)
    have hl3 : l2.length + cntO oi≤1000:=by omega
    have hul : (useO g oi l2).length + cntE ev≤1000:=by have:=useO_len g oi l2; omega
    have hul2 : (useE g ev (useO g oi l2)).length + cntS st≤1000:=by have:=useO_len g oi l2; have:=useE_len g ev (useO g oi l2); omega
    have hul3 : (useS g st (useE g ev (useO g oi l2))).length + cntS se≤1000:=by have:=useO_len g oi l2; have:=useE_len g ev (useO g oi l2); have:=useS_len g st (useE g ev (useO g oi l2)); omega
    have HUL4:=Lib.hid (show (useS g se (useS g st (useE g ev (useO g oi l2)))).length + cntS r2≤1000 by have:=useO_len g oi l2; have:=useE_len g ev (useO g oi l2); have:=useS_len g st (useE g ev (useO g oi l2)); have:=useS_len g se (useS g st (useE g ev (useO g oi l2))); omega)
    have HUSE:=Lib.hid (hvw.use g l2)
    obtain ⟨oui,hoe,hc1⟩:=used_opt HB.out HFL.out hvw.index hfw.1 wF lv2 l2 HSF.out hl3
    subst hoe
    obtain ⟨ob,hbe,hcv⟩:=(used_all HB.out HFL.out ev hfw.2.1).1 uv hvw.value
    subst hbe
    have HC1:=Lib.hid hc1; have HCV:=Lib.hid hcv
    have HLN:=Lib.hid hul; have HLN2:=Lib.hid hul2; have HLN3:=Lib.hid hul3; have HCS:=Lib.hid hcs
    have e0:=(HB.out.e.kept HSF.out.chg (by simpa using HB.out.ne)).cell 0 _ rfl
    have x3 : wF.cell? ⟨wr.heap.size,3,none⟩=_:=HBF.out.cell 3 _ rfl
    clear hz hcA hcF hbF hcw hc1 hcv hul hul2 hul3 hvw hfw hcells hsr hzr hfr hst2 hmv2 htot hl2 hl3 hcs hcnt
    go_wp2_with fail
    clear d0 d1 d2 d3 d4 d5 d6 z0 z1 z2 z3 z4 z5 z6 y0 y1 y2 y3 y4 y5 y6 hwA hwF x3 e0
    refine HC1.out.mono ?_; rintro _ wb ⟨rfl,lv3,hs3,hm3⟩
    have HS3:=Lib.hid hs3; have HM3:=Lib.hid hm3
    have x4:=(HBF.out.kept HM3.out.chg HNB.out).cell 4 _ rfl
    have e0:=(HB.out.e.kept HS3.out.chg (by simpa using HB.out.ne)).cell 0 _ rfl
    have HC2:=Lib.hid (HCV.out wb lv3 (useO g oi l2) HS3.out HLN.out)
    clear hs3 hm3
    go_wp2_with fail
    clear x4 e0
    refine HC2.out.mono ?_; rintro _ wc ⟨rfl,lv4,hs4,hm4⟩
    have HS4:=Lib.hid hs4; have HM4:=Lib.hid (HM3.out.trans hm4)
    have x5:=(HBF.out.kept HM4.out.chg HNB.out).cell 5 _ rfl
    have b0:=(HBB.out.kept HS4.out.chg (by simpa using hbL)).cell 0 _ rfl
    have HC3:=Lib.hid (IH.out st HZ.out.1 HFW2.out.2.2.1.1 HFW2.out.2.2.1.2 _ HVW.out.then_ wc lv4 _ HS4.out HLN2.out)
    clear hs4 hm4
    go_wp2_with fail
    clear x5 b0
    refine HC3.out.mono ?_; rintro _ wd ⟨rfl,lv5,hs5,hm5⟩
    have HS5:=Lib.hid hs5; have HM5:=Lib.hid (HM4.out.trans hm5)
    have x6:=(HBF.out.kept HM5.out.chg HNB.out).cell 6 _ rfl
    have b0:=(HBB.out.kept HS5.out.chg (by simpa using hbL)).cell 0 _ rfl
    have HC4:=Lib.hid (IH.out se HZ.out.2.1 HFW2.out.2.2.2.1.1 HFW2.out.2.2.2.1.2 _ HVW.out.else_ wd lv5 _ HS5.out HLN3.out)
    clear hs5 hm5
    go_wp2_with fail
    clear x6 b0
    refine HC4.out.mono ?_; rintro _ we ⟨rfl,lv6,hs6,hm6⟩
    have HS6:=Lib.hid hs6; have HM6:=Lib.hid (HMF.out.trans (HM5.out.trans hm6))
    clear hs6 hm6
    go_wp2_with fail
    refine ⟨⟨k + 1,r2,cs1 ++ [.int .i64 c0,.int .i64 c1,str nm,.pointer oui,.pointer (some ⟨ob,0,none⟩),.slice a1 st.len k1,.slice a2 se.len k2],cs2,lv6,_,by go_num,by rw [HCS.out]; simp,by simp [hk7]; omega,HVW.out.rest,by have:=HHD.out; omega,HZ.out.2.2,HFW2.out.2.2.2.2,HS6.out,HM6.out,?_,HUL4.out⟩,by simp [intOf]; omega⟩
    rw [← HTOT.out,HUSE.out]
   ·have hrn : r = .nil:=len_nil (by omega)
    have HR:=Lib.hid (show l2=tgt by rw [← HTOT.out,hrn]; rfl)
    clear hcs hk7 hsr hkr hzr hfr hst2 hmv2 htot hl2 hrn
    go_wp2_with fail
    refine bodyPost_end (results_none rfl _ _ _) rfl ?_
    rw [← HR.out]
    exact ⟨rfl,lv2,HS2.out,HM2.out⟩
end Go.Proofs.YtilhhkokdfajiaaGreatDoor
