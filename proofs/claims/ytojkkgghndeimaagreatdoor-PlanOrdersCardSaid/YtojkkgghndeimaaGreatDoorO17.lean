/- Some texts in one. -/
import Derived.Test.YtojkkgghndeimaaGreatDoorO13
import Derived.Test.YtojkkgghndeimaaGreatDoorO15
namespace Go.Mq.Used
open Go Go.RowKit Go.Mq Go.Mq.Tree
structure UB (w0:World) (bF bL bE:Nat) (g:List UInt8):Prop where
 f:Blk w0 bF #[str g] 9
 e:Blk w0 bE #[.func (.func 86) #[] #[ptr bF,ptr bL,ptr bE]] 152
 nf : bF≠bL
 ne : bE≠bL
 lt : bL < w0.heap.size
structure UseSt (w0:World) (bL:Nat) (lv:Value) (w:World) (l:List (List UInt8)):Prop where
 chg:Chg [bL] w0 w
 box:Blk w bL #[lv] 25
 own : w.ownsRow 0 9 1 lv l.length (l.map str)
 past : ∀ g∈blk lv,w0.heap.size≤g
structure UMv (bL:Nat) (lv:Value) (w:World) (lv':Value) (w':World):Prop where
 chg:Chg (bL :: blk lv) w w'
 mv : ∀ g∈blk lv',g∈blk lv∨w.heap.size≤g
theorem UMv.refl (bL:Nat) (lv:Value) (w:World):UMv bL lv w lv w:=⟨Chg.refl _ _,fun _ h=>.inl h⟩
theorem UMv.trans {bL:Nat} {lv lv1 lv2:Value} {w w1 w2:World} (h:UMv bL lv w lv1 w1) (k:UMv bL lv1 w1 lv2 w2):UMv bL lv w lv2 w2:=by
 refine ⟨h.chg.trans k.chg fun x hx=>?_,fun g hg=>?_⟩
 ·rcases List.mem_cons.1 hx with rfl | hx
  ·exact .inl (by simp)
  ·rcases h.mv x hx with h1 | h1
   ·exact .inl (by simp [h1])
   ·exact .inr h1
 ·rcases k.mv g hg with h1 | h1
  ·exact h.mv g h1
  ·exact .inr (by have:=h.chg.size; omega)
theorem UMv.kept {bL:Nat} {lv lv1:Value} {w w1 w2:World} (h:UMv bL lv w lv1 w1) (hc:Chg [] w1 w2):UMv bL lv w lv1 w2:=⟨h.chg.then hc.weak,h.mv⟩
theorem UseSt.kept {w0:World} {bL:Nat} {lv:Value} {w w':World} {l:List (List UInt8)} (h:UseSt w0 bL lv w l) (hc:Chg [] w w'):UseSt w0 bL lv w' l:=
 ⟨h.chg.then hc.weak,h.box.kept hc (by simp),owns_kept h.own hc (fun _ _ h=>by cases h),h.past⟩
def UseTo (w0:World) (bL:Nat) (lv:Value) (w:World) (l':List (List UInt8)) (e:Ending) (w':World):Prop:=e = .returned (.tuple #[]) ∧ ∃ lv',UseSt w0 bL lv' w' l'∧UMv bL lv w lv' w'
theorem touch_yes {g m n:List UInt8} {l:List (List UInt8)} (h1 : m=g) (h2 : g≠[]) (h3 : n∉l) : touch g m n l=l ++ [n]:=by rw [touch,if_pos ⟨h1,h2,h3⟩]
theorem touch_no {g m n:List UInt8} {l:List (List UInt8)} (h : ¬ (m=g∧g≠[]∧n∉l)) : touch g m n l=l:=by rw [touch,if_neg h]
end Go.Mq.Used
namespace Go.Proofs.YtojkkgghndeimaaGreatDoor
open Go Go.RowKit Go.Mq Go.Mq.Tree Go.Mq.Used
set_option maxRecDepth 100000
set_option maxHeartbeats 4000000
def UKid (w0:World) (bF bL bE:Nat) (g:List UInt8) (u:Value):Option E→Prop
 | none=>u=nilp
 | some x=>∃ b,u=ptr b ∧ ∀ w lv l,UseSt w0 bL lv w l→l.length + cntE x≤1000→Calls Tryz.prog 86 #[ptr b,ptr bF,ptr bL,ptr bE] w (UseTo w0 bL lv w (useE g x l))
def UKids (w0:World) (bF bL bE:Nat) (g:List UInt8):List Value→List (Option E)→Prop
 | [],os=>os=[]
 | u :: us,os=>∃ o os',os=o :: os'∧UKid w0 bF bL bE g u o∧UKids w0 bF bL bE g us os'
theorem UKids.one {w0:World} {bF bL bE:Nat} {g:List UInt8} : ∀ {us:List Value} {os:List (Option E)},UKids w0 bF bL bE g us os → ∀ x∈us,x.oneCell'=true
 | [],_,_=>by simp
 | u :: us,_,h=>by
  obtain ⟨o,os',rfl,hk,h⟩:=h
  intro x hx
  rcases List.mem_cons.1 hx with rfl | hx
  ·cases o with
   | none=>rw [show x=nilp from hk]; rfl
   | some y=>obtain ⟨b,rfl,_⟩:=hk; rfl
  ·exact h.one x hx
theorem used_nil (bF bL bE:Nat) (w:World):Calls Tryz.prog 86 #[nilp,ptr bF,ptr bL,ptr bE] w (fun e w'=>e = .returned (.tuple #[])∧w'=w):=by
 go_enter Tryz.func86,Tryz.ntmps86
 go_wp2_with fail
 refine bodyPost_ret (v:=.tuple #[]) (results_none rfl _ _ _) rfl ?_
 exact ⟨rfl,rfl⟩
theorem used_node (g:List UInt8) (w0:World) (bF bL bE:Nat) (hB:UB w0 bF bL bE g) (F:Nat→Prop) (hFL : ∀ x,F x→x≠bL) (be:Nat) (c0 c1 c2 c5:Value) (ou ov:Option Addr) (m n:List UInt8) (a:Option Addr) (kk:Nat) (vs:List Value) (os:List (Option E))
  (hx:Blk w0 be #[c0,c1,c2,str m,str n,c5,.pointer ou,.pointer ov,.slice a vs.length kk] 155) (hbe:F be) (hat:Row w0 F a vs) (hfew : vs.length≤1000) (hks:UKids w0 bF bL bE g (.pointer ou :: .pointer ov :: vs) os) (w:World) (lv1:Value) (l:List (List UInt8)) (hst:UseSt w0 bL lv1 w l) (hlen : (touch g m n l).length + (os.map cntO).sum≤1000) :
  Calls Tryz.prog 86 #[ptr be,ptr bF,ptr bL,ptr bE] w (UseTo w0 bL lv1 w (os.foldl (fun l o=>useO g o l) (touch g m n l))):=by
 have HB:=Lib.hid hB; have HX:=Lib.hid hx; have HAT:=Lib.hid hat; have HKS:=Lib.hid hks; have HST:=Lib.hid hst; have HMV:=Lib.hid (UMv.refl bL lv1 w)
 have hnL:=hFL be hbe
 have hltL:=hB.lt
 have hl1000 : l.length≤1000:=by
  rw [touch] at hlen
  split at hlen
  ·simp at hlen; omega
  ·omega
 have HBE:=Lib.hid (show be < w0.heap.size from hx.lt)
 clear hB hx hat hks hst
 obtain ⟨tgt,htgt⟩ : ∃ t,t=os.foldl (fun l o=>useO g o l) (touch g m n l):=⟨_,rfl⟩
 rw [← htgt]
 by_cases h0 : m=g∧g≠[]
 rotate_left
 focus
  have htn : touch g m n l=l:=touch_no fun h=>h0 ⟨h.1,h.2.1⟩
  rw [htn] at htgt hlen
  have HTG:=Lib.hid htgt; have HLN:=Lib.hid hlen
  clear htgt htn hlen
  by_cases h1 : m=g
  focus
   have h2b : (g == [])=true:=by simpa using fun h=>h0 ⟨h1,h⟩
   have h1':=h1.symm
   subst h1'
   clear h1
  rotate_left
  focus
   have h1b : (m == g)=false:=by simpa using h1
  all_goals
   go_enter Tryz.func86,Tryz.ntmps86
   go_wp2_with fail
   obtain ⟨wK,hwD⟩ : ∃ x,x=w.drew:=⟨_,rfl⟩
   have hWD:Chg [] w wK:=by rw [hwD]; exact (Chg.refl [] w).drew
   have HST:=Lib.hid (HST.out.kept hWD); have HMV:=Lib.hid (HMV.out.kept hWD)
   clear hWD
   have x3 : wK.cell? ⟨be,3,none⟩=_:=(HX.out.kept HST.out.chg (by simpa using hnL)).cell 3 _ rfl
   have x4 : wK.cell? ⟨be,4,none⟩=_:=(HX.out.kept HST.out.chg (by simpa using hnL)).cell 4 _ rfl
   have f0 : wK.cell? ⟨bF,0,none⟩=_:=(HB.out.f.kept HST.out.chg (by simpa using HB.out.nf)).cell 0 _ rfl
   refine wp_region_C [] rfl (by kernel_rfl) ?_
   rw [← hwD]
   clear hwD
   have hS:Chg [] wK wK:=Chg.refl _ _
   repeat ((with_reducible refine gX ?_); (first | refine wpX_nil ?_ | refine sK ?_ | refine sM fun _ _=>?_ | refine sL fun _ _=>?_ | refine sE fun _ _=>?_); go_wp2_with fail)
   clear hS x3 x4 f0
   go_wp2_with fail
 rotate_left 2
 focus
  obtain ⟨h1,h2⟩:=h0
  by_cases h3 : n∈l
  focus
   have htn : touch g m n l=l:=touch_no fun h=>h.2.2 h3
   have h3b : decide (n∈l)=true:=by simpa using h3
  rotate_left
  focus
   have htn : touch g m n l=l ++ [n]:=touch_yes h1 h2 h3
   have h3b : decide (n∈l)=false:=by simpa using h3
  all_goals
   rw [htn] at htgt hlen
   have HTG:=Lib.hid htgt; have HLN:=Lib.hid hlen
   clear htgt htn hlen
   have h2b : (g == [])=false:=by simpa using h2
   have h1':=h1.symm
   subst h1'
   clear h1
   go_enter Tryz.func86,Tryz.ntmps86
   go_wp2_with fail
   obtain ⟨wD,hwD⟩ : ∃ x,x=w.drew:=⟨_,rfl⟩
   have hWD:Chg [] w wD:=by rw [hwD]; exact (Chg.refl [] w).drew
   have HST:=Lib.hid (HST.out.kept hWD); have HMV:=Lib.hid (HMV.out.kept hWD)
   clear hWD
   have x3 : wD.cell? ⟨be,3,none⟩=_:=(HX.out.kept HST.out.chg (by simpa using hnL)).cell 3 _ rfl
   have x4 : wD.cell? ⟨be,4,none⟩=_:=(HX.out.kept HST.out.chg (by simpa using hnL)).cell 4 _ rfl
   have f0 : wD.cell? ⟨bF,0,none⟩=_:=(HB.out.f.kept HST.out.chg (by simpa using HB.out.nf)).cell 0 _ rfl
   have hlv:=HST.out.own
   obtain ⟨la,lc,rfl⟩:=slice_of_owns hlv
   have l0 : wD.cell? ⟨bL,0,none⟩=_:=HST.out.box.cell 0 _ rfl
   obtain ⟨na,nc,hnv,hnc,hnrow⟩:=Row.of_owns hlv (F:=fun _=>True) (fun _ _=>trivial)
   cases hnv
   have HCT:=Lib.hid (contains_in l hl1000 n _ (.slice la l.length lc) wD ⟨_,_,rfl,hnc,hnrow⟩)
   rw [h3b] at HCT
   clear hlv hnrow hnc
   refine wp_region_C [] rfl (by kernel_rfl) ?_
   rw [← hwD]
   clear hwD
   have hS:Chg [] wD wD:=Chg.refl _ _
   repeat ((with_reducible refine gX ?_); (first | refine wpX_nil ?_ | refine sK ?_ | refine sM fun _ _=>?_ | refine sL fun _ _=>?_ | refine sE fun _ _=>?_); go_wp2_with fail)
   refine HCT.out.mono ?_; rintro _ _ ⟨rfl,hw⟩; have hw:=hw.symm; subst hw
   go_wp2_with fail
   refine And.intro hS ?_
   repeat ((with_reducible refine gX ?_); (first | refine wpX_nil ?_ | refine sK ?_ | refine sM fun _ _=>?_ | refine sL fun _ _=>?_ | refine sE fun _ _=>?_); go_wp2_with fail)
   clear hS x3 x4 f0 l0 h2b h3b
   go_wp2_with fail
  focus
   have hl2 : (l ++ [n]).length≤1000:=by have:=HLN.out; omega
   rw [List.length_append,List.length_singleton] at hl2
   obtain ⟨wU,hwU⟩ : ∃ x,x=wD:=⟨_,rfl⟩
   subst hwU
   obtain ⟨wE,hwE⟩ : ∃ x,x=wU.drew:=⟨_,rfl⟩
   have hWD:Chg [] wU wE:=by rw [hwE]; exact (Chg.refl [] wU).drew
   have HST:=Lib.hid (HST.out.kept hWD); have HMV:=Lib.hid (HMV.out.kept hWD)
   clear hWD
   have x4 : wE.cell? ⟨be,4,none⟩=_:=(HX.out.kept HST.out.chg (by simpa using hnL)).cell 4 _ rfl
   have l0 : wE.cell? ⟨bL,0,none⟩=_:=HST.out.box.cell 0 _ rfl
   have HOD:=Lib.hid HST.out.own
   have hPAST:=HST.out.past
   have hltE : w0.heap.size≤wE.heap.size:=HST.out.chg.size
   have hbv : bL∉blk (.slice la l.length lc):=fun hm=>by have:=hPAST _ hm; omega
   have hlve:=owns_lt HST.out.own
   have hnv : be∉blk (.slice la l.length lc):=fun hm=>by have:=hPAST _ hm; have:=HBE.out; omega
   have Z1:=Lib.hid (Zone.of (X:=blk (.slice la l.length lc)) (w0:=wE) l0 hbv); have Z2:=Lib.hid (Zone.of (X:=blk (.slice la l.length lc)) (w0:=wE) x4 hnv)
   have HBV:=Lib.hid hbv; have HPAST:=Lib.hid hPAST; have HLVE:=Lib.hid hlve
   have hbe2 : be≠wE.heap.size:=by have:=HBE.out; omega
   have hbl2 : bL≠wE.heap.size:=by omega
   clear hnv hbv hPAST hlve
   refine wp_region_T (blk (.slice la l.length lc)) rfl (by kernel_rfl) rfl ?_
   rw [← hwE]
   clear hwE
   have hS:Chg (blk (.slice la l.length lc)) wE wE:=Chg.refl _ _
   repeat ((with_reducible refine gX ?_); (first | refine wpX_nil ?_ | refine sK ?_ | refine sM fun _ _=>?_ | refine sL (hz:=by first | exact Z1.out | exact Z2.out) fun _ _=>?_ | refine sE fun _ _=>?_); go_wp2_with fail)
   refine And.intro (hS.alloc _) ?_
   have hS1:Chg (blk (.slice la l.length lc)) wE (wE.alloc (.cells #[str n] 9)):=hS.alloc _
   repeat ((with_reducible refine gX ?_); (first | refine wpX_nil ?_ | refine sK ?_ | refine sM fun _ _=>?_ | refine sL (hz:=by first | exact Z1.out | exact Z2.out) fun _ _=>?_ | refine sE fun _ _=>?_); go_wp2_with fail)
   refine wpX_append _ _ 25 rfl rfl rfl 9 (.string ⟨#[]⟩) 1 16 infoStrC Tryz.underlying25 rfl (by decide) (.slice la l.length lc) l.length (l.map str) rfl (owns_kept HOD.out ((Chg.refl [] _).alloc _) (fun _ _ h=>by cases h)) ⟨wE.heap.size,0,none⟩ 1 1 [str n] rfl rfl (cells_new _ _ _) (by simp [Value.oneCell']) (by omega) (by unfold maxLen; omega) ?_
   intro v4 w4 ho4 hc4 hm4
   have hS4:Chg (blk (.slice la l.length lc)) wE w4:=(hS.alloc _).then hc4
   obtain ⟨va,vc,rfl⟩:=slice_of_owns ho4
   have hb4:=HST.out.box.kept hS4 HBV.out
   have c4:=hb4.cell 0 _ rfl; have f4:=hb4.frozen 0
   obtain ⟨wG,hwG⟩ : ∃ x,w4.setCell ⟨bL,0,none⟩ (.slice va (l.length + 1) vc)=x:=⟨_,rfl⟩
   have hbG:Blk wG bL #[.slice va (l.length + 1) vc] 25:=by rw [← hwG]; simpa using hb4.set 0 (.slice va (l.length + 1) vc)
   have hcG:Chg [bL] w4 wG:=by rw [← hwG]; exact Chg.set1 _ _ _ _
   have hmv4 : ∀ g∈blk (.slice va (l.length + 1) vc),g∈blk (.slice la l.length lc)∨wE.heap.size≤g:=fun g hg=>by
    rcases hm4 g hg with h | h
    ·exact .inl h
    ·simp at h; exact .inr (by omega)
   have hpast4 : ∀ g∈blk (.slice va (l.length + 1) vc),w0.heap.size≤g:=fun g hg=>by
    rcases hmv4 g hg with h | h
    ·exact HPAST.out g h
    ·omega
   have hoG : wG.ownsRow 0 9 1 (.slice va (l.length + 1) vc) (l ++ [n]).length ((l ++ [n]).map str):=by
    have h1:=owns_kept ho4 hcG (fun g hg hm=>by have:=hpast4 g hg; simp at hm; omega)
    rw [List.map_append,List.length_append]; exact h1
   have hcEG:Chg (bL :: blk (.slice la l.length lc)) wE wG:=(hS4.mono fun x hx=>.inl (by simp [hx])).trans hcG (fun x hx=>.inl (by simp at hx; simp [hx]))
   have HSTG:=Lib.hid (show UseSt w0 bL (.slice va (l.length + 1) vc) wG (l ++ [n]) from ⟨HST.out.chg.trans hcEG (fun x hx=>by
    rcases List.mem_cons.1 hx with rfl | hx
    ·exact .inl (by simp)
    ·exact .inr (HPAST.out x hx)),hbG,hoG,hpast4⟩)
   have HMVG:=Lib.hid (HMV.out.trans ⟨hcEG,hmv4⟩)
   clear ho4 hc4 hm4 hb4 hbG hcG hmv4 hpast4 hoG hcEG
   refine And.intro hS4 ?_
   repeat ((with_reducible refine gX ?_); (first | refine wpX_nil ?_ | refine sK ?_ | refine sM fun _ _=>?_ | refine sL (hz:=by first | exact Z1.out | exact Z2.out) fun _ _=>?_ | refine sE fun _ _=>?_); go_wp2_with fail)
   refine stepX_ef rfl rfl (fun _ _=>?_)
   change Oper.wp _ (Oper.mk ..) ..
   go_wp2_with fail
   clear hwG c4 f4 hS hS1 hS4 x4 l0 Z1 Z2
   have HST:=HSTG; have HMV:=HMVG
   clear HSTG HMVG
   obtain ⟨lv1,hlv1⟩ : ∃ x,x=Value.slice va (l.length + 1) vc:=⟨_,rfl⟩
   rw [← hlv1] at HST HMV
   clear hlv1
   obtain ⟨wK,rfl⟩ : ∃ x,x=wG:=⟨_,rfl⟩
  rotate_left
  focus
   have HMV0:=HMV
   clear HMV
   obtain ⟨lv1,hlv1⟩ : ∃ x,x=Value.slice la l.length lc:=⟨_,rfl⟩
   have HMV:=Lib.hid (show UMv bL (.slice la l.length lc) w lv1 wD by rw [hlv1]; exact HMV0.out)
   rw [← hlv1] at HST
   clear hlv1 HMV0
   obtain ⟨wK,rfl⟩ : ∃ x,x=wD:=⟨_,rfl⟩
 all_goals
  obtain ⟨wT,hwD⟩ : ∃ x,x=wK.drew:=⟨_,rfl⟩
  have hWD:Chg [] wK wT:=by rw [hwD]; exact (Chg.refl [] wK).drew
  have HST:=Lib.hid (HST.out.kept hWD); have HMV:=Lib.hid (HMV.out.kept hWD)
  clear hWD
  have x6 : wT.cell? ⟨be,6,none⟩=_:=(HX.out.kept HST.out.chg (by simpa using hnL)).cell 6 _ rfl
  have x7 : wT.cell? ⟨be,7,none⟩=_:=(HX.out.kept HST.out.chg (by simpa using hnL)).cell 7 _ rfl
  have x8 : wT.cell? ⟨be,8,none⟩=_:=(HX.out.kept HST.out.chg (by simpa using hnL)).cell 8 _ rfl
  have hown : (wT.alloc (.cells #[.pointer ou,.pointer ov] 136)).ownsRow 0 136 1 (.slice (some ⟨wT.heap.size,0,none⟩) 2 2) 2 [.pointer ou,.pointer ov]:=⟨rfl,.inr ⟨wT.heap.size,2,#[.pointer ou,.pointer ov],rfl,Nat.zero_le _,heap_alloc_new wT _,Nat.le_refl _,by unfold maxLen; omega,rfl,rfl⟩⟩
  have HOWN:=Lib.hid hown
  have hca:Chg [] wT (wT.alloc (.cells #[.pointer ou,.pointer ov] 136)):=(Chg.refl _ _).alloc _
  have HATD:=Lib.hid (show At (wT.alloc (.cells #[.pointer ou,.pointer ov] 136)) a vs from ((HAT.out.kept HST.out.chg (fun x hx hF=>by simp at hx; subst hx; exact hFL _ hF rfl)).kept hca (by simp)).at_)
  have HONE:=Lib.hid (show ∀ x∈vs,x.oneCell'=true from fun x hx=>HKS.out.one x (by simp [hx]))
  obtain ⟨US,hUS⟩ : ∃ U,U=[.pointer ou,.pointer ov] ++ vs:=⟨_,rfl⟩
  have hUL:US.length=2 + vs.length:=by rw [hUS]; simp; omega
  have HKU:=Lib.hid (show UKids w0 bF bL bE g US os by rw [hUS]; exact HKS.out)
  have HUS:=Lib.hid hUS
  have hbe : be≠wT.heap.size:=by have:=(HX.out.kept HST.out.chg (by simpa using hnL)).lt; omega
  have x8a:=hca.cellSome x8 (by simp)
  have hsT : w0.heap.size≤wT.heap.size:=HST.out.chg.size
  clear hown hca hUS
  refine wp_region_C [] rfl (by kernel_rfl) ?_
  rw [← hwD]
  clear hwD
  have hS:Chg [] wT wT:=Chg.refl _ _
  repeat ((with_reducible refine gX ?_); (first | refine wpX_nil ?_ | refine sK ?_ | refine sM fun _ _=>?_ | refine sL fun _ _=>?_ | refine sE fun _ _=>?_); go_wp2_with fail)
  refine And.intro (hS.alloc _) ?_
  have hS1:Chg [] wT (wT.alloc (.cells #[.pointer ou,.pointer ov] 136)):=hS.alloc _
  repeat ((with_reducible refine gX ?_); (first | refine wpX_nil ?_ | refine sK ?_ | refine sM fun _ _=>?_ | refine sL fun _ _=>?_ | refine sE fun _ _=>?_); go_wp2_with fail)
  refine wpX_append_any _ _ 153 rfl rfl rfl 136 (.pointer none) 1 8 infoPtr Tryz.underlying153 rfl (by decide) (.slice (some ⟨wT.heap.size,0,none⟩) 2 2) 2 [.pointer ou,.pointer ov] rfl HOWN.out a vs.length kk vs rfl (by simp) HATD.out HONE.out (by omega) (by unfold maxLen; omega) ?_
  intro v2 w2 ho2 hc2 hm2
  have hS:Chg [] wT w2:=((Chg.refl [] wT).alloc _).trans hc2 (fun x hx=>.inr (by simp [blk] at hx; omega))
  rw [← HUS.out] at ho2
  obtain ⟨ra,rc,rfl,hrc,hrow⟩:=Row.of_owns ho2 (F:=fun b=>wT.heap.size≤b) (fun b hb=>by
   rcases hm2 b hb with h | h
   ·simp [blk] at h; omega
   ·simp at h; omega)
  have HROW:=Lib.hid hrow
  have HBL:=Lib.hid (show ∀ x∈bL :: blk lv1,¬ wT.heap.size≤x from fun x hx=>by
   rcases List.mem_cons.1 hx with rfl | hx
   ·omega
   ·have:=owns_lt HST.out.own x hx; omega)
  have HST:=Lib.hid (HST.out.kept hS); have HMV:=Lib.hid (HMV.out.kept hS)
  clear ho2 hc2 hrow x6 x7 x8 x8a hbe hm2
  refine And.intro hS ?_
  clear hS1
  repeat ((with_reducible refine gX ?_); (first | refine wpX_nil ?_ | refine sK ?_ | refine sM fun _ _=>?_ | refine sL fun _ _=>?_ | refine sE fun _ _=>?_); go_wp2_with fail)
  clear hS
  go_loopw [6,50] (fun _ i wr=>∃ (k:Nat) (us2:List Value) (os2:List (Option E)) (lv2:Value) (l2:List (List UInt8)),i = .int .i64 k∧US.drop k=us2∧k≤US.length∧UKids w0 bF bL bE g us2 os2∧UseSt w0 bL lv2 wr l2∧UMv bL lv1 w2 lv2 wr∧os2.foldl (fun l o=>useO g o l) l2=tgt∧l2.length + (os2.map cntO).sum≤1000) (fun _ i _=>US.length - (intOf i).toNat)
  case atStart=>exact ⟨0,US,os,lv1,_,rfl,rfl,Nat.zero_le _,HKU.out,HST.out,UMv.refl _ _ _,HTG.out.symm,HLN.out⟩
  case round=>
   obtain ⟨k,us2,os2,lv2,l2,rfl,hdr,hkl,hks,hst,hmv,htot,hl2⟩:=hrel
   have HS2:=Lib.hid hst; have HM2:=Lib.hid hmv; have HTOT:=Lib.hid htot; have HL2:=Lib.hid hl2
   clear hst hmv htot hl2
   by_cases hlt : k < 2 + vs.length
   ·obtain ⟨x,hx⟩ : ∃ x,US[k]?=some x:=⟨US[k]'(by omega),List.getElem?_eq_getElem (by omega)⟩
    have hd2 : us2=x :: US.drop (k + 1):=by
     rw [← hdr,List.drop_eq_getElem_cons (by omega)]
     congr 1
     rw [List.getElem?_eq_getElem (by omega)] at hx
     exact Option.some.inj hx
    rw [hd2] at hks
    obtain ⟨o,os3,rfl,hkid,hks⟩:=hks
    obtain ⟨rb,ro,rfl,hcell⟩:=(HROW.out.kept HM2.out.chg HBL.out).at_ (by omega)
    have d0:=hcell k x hx
    have e0:=(HB.out.e.kept HS2.out.chg (by simpa using HB.out.ne)).cell 0 _ rfl
    have HKS3:=Lib.hid hks
    clear hdr hd2 hks hcell hx
    cases o with
    | none=>
     have hk0 : x=nilp:=hkid
     subst hk0
     go_wp2_with fail
     refine (used_nil bF bL bE wr).mono ?_; rintro _ _ ⟨rfl,hw⟩; have hw:=hw.symm; subst hw
     go_wp2_with fail
     refine ⟨⟨k + 1,_,os3,lv2,l2,by go_num,rfl,by omega,HKS3.out,HS2.out,HM2.out,HTOT.out,by have:=HL2.out; simp only [List.map_cons,List.sum_cons] at this; omega⟩,by simp [intOf]; omega⟩
    | some y=>
     obtain ⟨b,rfl,hcall⟩:=hkid
     have HY:=Lib.hid (show (useE g y l2).length + (os3.map cntO).sum≤1000 from by have:=HL2.out; simp only [List.map_cons,List.sum_cons,cntO] at this; have:=useE_len g y l2; omega)
     have HCALL:=Lib.hid (hcall wr lv2 l2 HS2.out (by have:=HL2.out; simp only [List.map_cons,List.sum_cons,cntO] at this; omega))
     clear hcall
     go_wp2_with fail
     refine HCALL.out.mono ?_; rintro _ w4 ⟨rfl,lv4,hs4,hm4⟩
     have HS4:=Lib.hid hs4; have HM4:=Lib.hid (HM2.out.trans hm4)
     clear hs4 hm4 d0 e0
     go_wp2_with fail
     refine ⟨⟨k + 1,_,os3,lv4,useE g y l2,by go_num,rfl,by omega,HKS3.out,HS4.out,HM4.out,HTOT.out,HY.out⟩,by simp [intOf]; omega⟩
   ·have hde : us2=[]:=by rw [← hdr]; exact List.drop_eq_nil_of_le (by omega)
    rw [hde] at hks
    have hrs : os2=[]:=hks
    have HTOT:=Lib.hid (show l2=tgt by rw [← HTOT.out,hrs]; rfl)
    clear hdr hde hks hrs
    go_wp2_with fail
    refine bodyPost_end (results_none rfl _ _ _) rfl ?_
    rw [← HTOT.out]
    exact ⟨rfl,lv2,HS2.out,HMV.out.trans HM2.out⟩
end Go.Proofs.YtojkkgghndeimaaGreatDoor
