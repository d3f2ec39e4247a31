/- Some texts in one. -/
import Derived.Test.YtechofppmnnomaaGreatDoorB14
import Derived.Test.YtechofppmnnomaaGreatDoorB25
import Derived.Test.YtechofppmnnomaaGreatDoorB29
namespace Go.Mq.Used
open Go Go.RowKit Go.Mq Go.Mq.Tree
structure UB (w0:World) (bF bL bE:Nat) (g:List UInt8):Prop where
 f:ag w0 bF #[str g] 9
 e:ag w0 bE #[.func (.func 93) #[] #[ptr bF,ptr bL,ptr bE]] 189
 nf : bF≠bL
 ne : bE≠bL
 lt : bL < w0.heap.size
structure qA (w0:World) (bL:Nat) (lv:Value) (w:World) (l:List (List UInt8)):Prop where
 aP:ae [bL] w0 w
 box:ag w bL #[lv] 27
 own : w.ownsRow 0 9 1 lv l.length (l.map str)
 past : ∀ g∈blk lv,w0.heap.size≤g
structure mG (bL:Nat) (lv:Value) (w:World) (Il:Value) (w':World):Prop where
 aP:ae (bL :: blk lv) w w'
 mv : ∀ g∈blk Il,g∈blk lv∨w.heap.size≤g
theorem mG.refl (bL:Nat) (lv:Value) (w:World):mG bL lv w lv w:=⟨ae.refl _ _,fun _ h=>.inl h⟩
theorem mG.trans {bL:Nat} {lv nX ky:Value} {w w1 w2:World} (h:mG bL lv w nX w1) (k:mG bL nX w1 ky w2):mG bL lv w ky w2:=by
 refine⟨h.aP.trans k.aP fun x hx=>?_,fun g hg=>?_⟩
 ·rcases List.mem_cons.1 hx with rfl|hx
  ·exact .inl (by simp)
  ·rcases h.mv x hx with h1|h1
   ·exact .inl (by simp [h1])
   ·exact .inr h1
 ·rcases k.mv g hg with h1|h1
  ·exact h.mv g h1
  ·exact .inr (by have:=h.aP.size;omega)
theorem mG.kept {bL:Nat} {lv nX:Value} {w w1 w2:World} (h:mG bL lv w nX w1) (hc:ae [] w1 w2):mG bL lv w nX w2:=⟨h.aP.then hc.weak,h.mv⟩
theorem qA.kept {w0:World} {bL:Nat} {lv:Value} {w w':World} {l:List (List UInt8)} (h:qA w0 bL lv w l) (hc:ae [] w w'):qA w0 bL lv w' l:=
 ⟨h.aP.then hc.weak,h.box.kept hc (by simp),cK h.own hc (fun _ _ h=>by cases h),h.past⟩
def Im (w0:World) (bL:Nat) (lv:Value) (w:World) (l':List (List UInt8)) (e:Ending) (w':World):Prop:=e = .returned (.tuple #[]) ∧ ∃ Il,qA w0 bL Il w' l'∧mG bL lv w Il w'
theorem adI {g m n:List UInt8} {l:List (List UInt8)} (h1 : m=g) (h2 : g≠[]) (h3 : n∉l) : touch g m n l=l ++ [n]:=by rw [touch,if_pos ⟨h1,h2,h3⟩]
theorem Ex {g m n:List UInt8} {l:List (List UInt8)} (h : ¬ (m=g∧g≠[]∧n∉l)) : touch g m n l=l:=by rw [touch,if_neg h]
end Go.Mq.Used
namespace Go.Proofs.YtechofppmnnomaaGreatDoor
open Go Go.RowKit Go.Mq Go.Mq.Tree Go.Mq.Used
set_option maxRecDepth 100000
set_option maxHeartbeats 4000000
def Ey (w0:World) (bF bL bE:Nat) (g:List UInt8) (u:Value):Option E→Prop
 | none=>u=aJ
 | some x=>∃ b,u=ptr b ∧ ∀ w lv l,qA w0 bL lv w l→l.length + eT x≤1000→Calls Tryz.prog 93 #[ptr b,ptr bF,ptr bL,ptr bE] w (Im w0 bL lv w (dw g x l))
def zV (w0:World) (bF bL bE:Nat) (g:List UInt8):List Value→List (Option E)→Prop
 | [],os=>os=[]
 | u :: us,os=>∃ o os',os=o :: os'∧Ey w0 bF bL bE g u o∧zV w0 bF bL bE g us os'
theorem zV.one {w0:World} {bF bL bE:Nat} {g:List UInt8} : ∀ {us:List Value} {os:List (Option E)},zV w0 bF bL bE g us os → ∀ x∈us,x.oneCell'=true
 | [],_,_=>by simp
 | u :: us,_,h=>by
  obtain⟨o,os',rfl,hk,h⟩:=h;intro x hx;rcases List.mem_cons.1 hx with rfl|hx
  ·cases o with
   | none=>rw [show x=aJ from hk];rfl
   | some y=>obtain⟨b,rfl,_⟩:=hk;rfl
  ·exact h.one x hx
theorem TW (bF bL bE:Nat) (w:World):Calls Tryz.prog 93 #[aJ,ptr bF,ptr bL,ptr bE] w (fun e w'=>e = .returned (.tuple #[])∧w'=w):=by
 go_enter Tryz.func93,Tryz.ntmps93
 go_wp2_with fail;refine bodyPost_ret (v:=.tuple #[]) (results_none rfl _ _ _) rfl ?_;exact⟨rfl,rfl⟩
theorem BC (g:List UInt8) (w0:World) (bF bL bE:Nat) (hB:UB w0 bF bL bE g) (F:Nat→Prop) (lT : ∀ x,F x→x≠bL) (be:Nat) (c0 c1 c2 c5:Value) (ou ov:Option Addr) (m n:List UInt8) (a:Option Addr) (kk:Nat) (vs:List Value) (os:List (Option E))
  (hx:ag w0 be #[c0,c1,c2,str m,str n,c5,.pointer ou,.pointer ov,.slice a vs.length kk] 192) (hbe:F be) (hat:Row w0 F a vs) (dK : vs.length≤1000) (hks:zV w0 bF bL bE g (.pointer ou :: .pointer ov :: vs) os) (w:World) (nX:Value) (l:List (List UInt8)) (hst:qA w0 bL nX w l) (hlen : (touch g m n l).length + (os.map iM).sum≤1000) :
  Calls Tryz.prog 93 #[ptr be,ptr bF,ptr bL,ptr bE] w (Im w0 bL nX w (os.foldl (fun l o=>iY g o l) (touch g m n l))):=by
 have HB:=zh hB;have HX:=zh hx;have HAT:=zh hat;have tK:=zh hks;have HST:=zh hst;have iI:=zh (mG.refl bL nX w);have vM:=lT be hbe;have adJ:=hB.lt;have adK : l.length≤1000:=by
  rw [touch] at hlen;split at hlen
  ·simp at hlen;omega
  ·omega
 have gZ:=zh (show be < w0.heap.size from hx.lt);clear hB hx hat hks hst;obtain⟨tgt,fw⟩ : ∃ t,t=os.foldl (fun l o=>iY g o l) (touch g m n l):=⟨_,rfl⟩
 rw [← fw];by_cases h0 : m=g∧g≠[]
 rotate_left
 focus
  have htn : touch g m n l=l:=Ex fun h=>h0 ⟨h.1,h.2.1⟩
  rw [htn] at fw hlen;have eQ:=zh fw;have kV:=zh hlen;clear fw htn hlen;by_cases h1 : m=g
  focus
   have TY : (g == [])=true:=by simpa using fun h=>h0 ⟨h1,h⟩
   have h1':=h1.symm;subst h1';clear h1
  rotate_left
  focus
   have h1b : (m == g)=false:=by simpa using h1
  all_goals
   go_enter Tryz.func93,Tryz.ntmps93
   go_wp2_with fail;obtain⟨wK,aI⟩ : ∃ x,x=w.drew:=⟨_,rfl⟩
   have aU:ae [] w wK:=by rw [aI];exact(ae.refl [] w).drew
   have HST:=zh (HST.out.kept aU);have iI:=zh (iI.out.kept aU);clear aU;have x3 : wK.cell? ⟨be,3,none⟩=_:=(HX.out.kept HST.out.aP (by simpa using vM)).cell 3 _ rfl;have x4 : wK.cell? ⟨be,4,none⟩=_:=(HX.out.kept HST.out.aP (by simpa using vM)).cell 4 _ rfl;have f0 : wK.cell? ⟨bF,0,none⟩=_:=(HB.out.f.kept HST.out.aP (by simpa using HB.out.nf)).cell 0 _ rfl;refine kT [] rfl (by kernel_rfl) ?_;rw [← aI];clear aI;have hS:ae [] wK wK:=ae.refl _ _
   repeat ((with_reducible refine gX ?_);(first|refine aM ?_|refine sK ?_|refine sM fun _ _=>?_|refine sL fun _ _=>?_|refine sE fun _ _=>?_);go_wp2_with fail)
   clear hS x3 x4 f0;go_wp2_with fail
 rotate_left 2
 focus
  obtain⟨h1,h2⟩:=h0;by_cases h3 : n∈l
  focus
   have htn : touch g m n l=l:=Ex fun h=>h.2.2 h3
   have Mh : decide (n∈l)=true:=by simpa using h3
  rotate_left
  focus
   have htn : touch g m n l=l ++ [n]:=adI h1 h2 h3;have Mh : decide (n∈l)=false:=by simpa using h3
  all_goals
   rw [htn] at fw hlen;have eQ:=zh fw;have kV:=zh hlen;clear fw htn hlen;have TY : (g == [])=false:=by simpa using h2
   have h1':=h1.symm;subst h1';clear h1
   go_enter Tryz.func93,Tryz.ntmps93
   go_wp2_with fail;obtain⟨wD,aI⟩ : ∃ x,x=w.drew:=⟨_,rfl⟩
   have aU:ae [] w wD:=by rw [aI];exact(ae.refl [] w).drew
   have HST:=zh (HST.out.kept aU);have iI:=zh (iI.out.kept aU);clear aU;have x3 : wD.cell? ⟨be,3,none⟩=_:=(HX.out.kept HST.out.aP (by simpa using vM)).cell 3 _ rfl;have x4 : wD.cell? ⟨be,4,none⟩=_:=(HX.out.kept HST.out.aP (by simpa using vM)).cell 4 _ rfl;have f0 : wD.cell? ⟨bF,0,none⟩=_:=(HB.out.f.kept HST.out.aP (by simpa using HB.out.nf)).cell 0 _ rfl;have hlv:=HST.out.own;obtain⟨la,lc,rfl⟩:=gu hlv;have l0 : wD.cell? ⟨bL,0,none⟩=_:=HST.out.box.cell 0 _ rfl;obtain⟨na,nc,nS,hnc,TZ⟩:=Row.jF hlv (F:=fun _=>True) (fun _ _=>trivial);cases nS
   have fO:=zh (F6 l adK n _ (.slice la l.length lc) wD ⟨_,_,rfl,hnc,TZ⟩);rw [Mh] at fO;clear hlv TZ hnc;refine kT [] rfl (by kernel_rfl) ?_;rw [← aI];clear aI;have hS:ae [] wD wD:=ae.refl _ _
   repeat ((with_reducible refine gX ?_);(first|refine aM ?_|refine sK ?_|refine sM fun _ _=>?_|refine sL fun _ _=>?_|refine sE fun _ _=>?_);go_wp2_with fail)
   refine fO.out.mono ?_;rintro _ _ ⟨rfl,hw⟩;have hw:=hw.symm;subst hw;go_wp2_with fail;refine And.intro hS ?_
   repeat ((with_reducible refine gX ?_);(first|refine aM ?_|refine sK ?_|refine sM fun _ _=>?_|refine sL fun _ _=>?_|refine sE fun _ _=>?_);go_wp2_with fail)
   clear hS x3 x4 f0 l0 TY Mh;go_wp2_with fail
  focus
   have hl2 : (l ++ [n]).length≤1000:=by have:=kV.out;omega
   rw [List.length_append,List.length_singleton] at hl2;obtain⟨wU,Bo⟩ : ∃ x,x=wD:=⟨_,rfl⟩
   subst Bo;obtain⟨wE,bV⟩ : ∃ x,x=wU.drew:=⟨_,rfl⟩
   have aU:ae [] wU wE:=by rw [bV];exact(ae.refl [] wU).drew
   have HST:=zh (HST.out.kept aU);have iI:=zh (iI.out.kept aU);clear aU;have x4 : wE.cell? ⟨be,4,none⟩=_:=(HX.out.kept HST.out.aP (by simpa using vM)).cell 4 _ rfl;have l0 : wE.cell? ⟨bL,0,none⟩=_:=HST.out.box.cell 0 _ rfl;have HOD:=zh HST.out.own;have Io:=HST.out.past;have aiE : w0.heap.size≤wE.heap.size:=HST.out.aP.size;have hbv : bL∉blk (.slice la l.length lc):=fun hm=>by have:=Io _ hm;omega
   have T9:=pM HST.out.own;have nS : be∉blk (.slice la l.length lc):=fun hm=>by have:=Io _ hm;have:=gZ.out;omega
   have Z1:=zh (bZ.of (X:=blk (.slice la l.length lc)) (w0:=wE) l0 hbv);have Z2:=zh (bZ.of (X:=blk (.slice la l.length lc)) (w0:=wE) x4 nS);have Ee:=zh hbv;have Ua:=zh Io;have aiF:=zh T9;have qJ : be≠wE.heap.size:=by have:=gZ.out;omega
   have aiG : bL≠wE.heap.size:=by omega
   clear nS hbv Io T9;refine AA (blk (.slice la l.length lc)) rfl (by kernel_rfl) rfl ?_;rw [← bV];clear bV;have hS:ae (blk (.slice la l.length lc)) wE wE:=ae.refl _ _
   repeat ((with_reducible refine gX ?_);(first|refine aM ?_|refine sK ?_|refine sM fun _ _=>?_|refine sL (hz:=by first|exact Z1.out|exact Z2.out) fun _ _=>?_|refine sE fun _ _=>?_);go_wp2_with fail)
   refine And.intro (hS.alloc _) ?_;have hS1:ae (blk (.slice la l.length lc)) wE (wE.alloc (.cells #[str n] 9)):=hS.alloc _
   repeat ((with_reducible refine gX ?_);(first|refine aM ?_|refine sK ?_|refine sM fun _ _=>?_|refine sL (hz:=by first|exact Z1.out|exact Z2.out) fun _ _=>?_|refine sE fun _ _=>?_);go_wp2_with fail)
   refine Ub _ _ 27 rfl rfl rfl 9 (.string ⟨#[]⟩) 1 16 Ba Tryz.underlying27 rfl (by decide) (.slice la l.length lc) l.length (l.map str) rfl (cK HOD.out ((ae.refl [] _).alloc _) (fun _ _ h=>by cases h)) ⟨wE.heap.size,0,none⟩ 1 1 [str n] rfl rfl (uI _ _ _) (by simp [Value.oneCell']) (by omega) (by unfold maxLen;omega) ?_;intro v4 w4 pg hc4 iK;have Ip:ae (blk (.slice la l.length lc)) wE w4:=(hS.alloc _).then hc4
   obtain⟨va,vc,rfl⟩:=gu pg;have hb4:=HST.out.box.kept Ip Ee.out;have c4:=hb4.cell 0 _ rfl;have f4:=hb4.frozen 0;obtain⟨wG,FO⟩ : ∃ x,w4.setCell ⟨bL,0,none⟩ (.slice va (l.length + 1) vc)=x:=⟨_,rfl⟩
   have Cu:ag wG bL #[.slice va (l.length + 1) vc] 27:=by rw [← FO];simpa using hb4.set 0 (.slice va (l.length + 1) vc)
   have fH:ae [bL] w4 wG:=by rw [← FO];exact ae.set1 _ _ _ _
   have Mi : ∀ g∈blk (.slice va (l.length + 1) vc),g∈blk (.slice la l.length lc)∨wE.heap.size≤g:=fun g hg=>by
    rcases iK g hg with h|h
    ·exact .inl h
    ·simp at h;exact .inr (by omega)
   have Mj : ∀ g∈blk (.slice va (l.length + 1) vc),w0.heap.size≤g:=fun g hg=>by
    rcases Mi g hg with h|h
    ·exact Ua.out g h
    ·omega
   have Uc : wG.ownsRow 0 9 1 (.slice va (l.length + 1) vc) (l ++ [n]).length ((l ++ [n]).map str):=by
    have h1:=cK pg fH (fun g hg hm=>by have:=Mj g hg;simp at hm;omega);rw [List.map_append,List.length_append];exact h1
   have Ml:ae (bL :: blk (.slice la l.length lc)) wE wG:=(Ip.mono fun x hx=>.inl (by simp [hx])).trans fH (fun x hx=>.inl (by simp at hx;simp [hx]));have Ud:=zh (show qA w0 bL (.slice va (l.length + 1) vc) wG (l ++ [n]) from⟨HST.out.aP.trans Ml (fun x hx=>by
    rcases List.mem_cons.1 hx with rfl|hx
    ·exact .inl (by simp)
    ·exact .inr (Ua.out x hx)),Cu,Uc,Mj⟩)
   have Ue:=zh (iI.out.trans ⟨Ml,Mi⟩);clear pg hc4 iK hb4 Cu fH Mi Mj Uc Ml;refine And.intro Ip ?_
   repeat ((with_reducible refine gX ?_);(first|refine aM ?_|refine sK ?_|refine sM fun _ _=>?_|refine sL (hz:=by first|exact Z1.out|exact Z2.out) fun _ _=>?_|refine sE fun _ _=>?_);go_wp2_with fail)
   refine tJ rfl rfl (fun _ _=>?_)
   change Oper.wp _ (Oper.mk ..) ..
   go_wp2_with fail;clear FO c4 f4 hS hS1 Ip x4 l0 Z1 Z2;have HST:=Ud;have iI:=Ue;clear Ud Ue;obtain⟨nX,hlv1⟩ : ∃ x,x=Value.slice va (l.length + 1) vc:=⟨_,rfl⟩
   rw [← hlv1] at HST iI;clear hlv1;obtain⟨wK,rfl⟩ : ∃ x,x=wG:=⟨_,rfl⟩
  rotate_left
  focus
   have Uf:=iI;clear iI;obtain⟨nX,hlv1⟩ : ∃ x,x=Value.slice la l.length lc:=⟨_,rfl⟩
   have iI:=zh (show mG bL (.slice la l.length lc) w nX wD by rw [hlv1];exact Uf.out);rw [← hlv1] at HST;clear hlv1 Uf;obtain⟨wK,rfl⟩ : ∃ x,x=wD:=⟨_,rfl⟩
 all_goals
  obtain⟨wT,aI⟩ : ∃ x,x=wK.drew:=⟨_,rfl⟩
  have aU:ae [] wK wT:=by rw [aI];exact(ae.refl [] wK).drew
  have HST:=zh (HST.out.kept aU);have iI:=zh (iI.out.kept aU);clear aU;have x6 : wT.cell? ⟨be,6,none⟩=_:=(HX.out.kept HST.out.aP (by simpa using vM)).cell 6 _ rfl;have x7 : wT.cell? ⟨be,7,none⟩=_:=(HX.out.kept HST.out.aP (by simpa using vM)).cell 7 _ rfl;have x8 : wT.cell? ⟨be,8,none⟩=_:=(HX.out.kept HST.out.aP (by simpa using vM)).cell 8 _ rfl;have hown : (wT.alloc (.cells #[.pointer ou,.pointer ov] 166)).ownsRow 0 166 1 (.slice (some ⟨wT.heap.size,0,none⟩) 2 2) 2 [.pointer ou,.pointer ov]:=⟨rfl,.inr ⟨wT.heap.size,2,#[.pointer ou,.pointer ov],rfl,Nat.zero_le _,heap_alloc_new wT _,Nat.le_refl _,by unfold maxLen;omega,rfl,rfl⟩⟩;have HOWN:=zh hown;have aO:ae [] wT (wT.alloc (.cells #[.pointer ou,.pointer ov] 166)):=(ae.refl _ _).alloc _;have JZ:=zh (show At (wT.alloc (.cells #[.pointer ou,.pointer ov] 166)) a vs from((HAT.out.kept HST.out.aP (fun x hx hF=>by simp at hx;subst hx;exact lT _ hF rfl)).kept aO (by simp)).at_);have nO:=zh (show ∀ x∈vs,x.oneCell'=true from fun x hx=>tK.out.one x (by simp [hx]));obtain⟨US,hUS⟩ : ∃ U,U=[.pointer ou,.pointer ov] ++ vs:=⟨_,rfl⟩
  have Za:US.length=2 + vs.length:=by rw [hUS];simp;omega
  have HKU:=zh (show zV w0 bF bL bE g US os by rw [hUS];exact tK.out);have C9:=zh hUS;have hbe : be≠wT.heap.size:=by have:=(HX.out.kept HST.out.aP (by simpa using vM)).lt;omega
  have J2:=aO.aH x8 (by simp);have hsT : w0.heap.size≤wT.heap.size:=HST.out.aP.size;clear hown aO hUS;refine kT [] rfl (by kernel_rfl) ?_;rw [← aI];clear aI;have hS:ae [] wT wT:=ae.refl _ _
  repeat ((with_reducible refine gX ?_);(first|refine aM ?_|refine sK ?_|refine sM fun _ _=>?_|refine sL fun _ _=>?_|refine sE fun _ _=>?_);go_wp2_with fail)
  refine And.intro (hS.alloc _) ?_;have hS1:ae [] wT (wT.alloc (.cells #[.pointer ou,.pointer ov] 166)):=hS.alloc _
  repeat ((with_reducible refine gX ?_);(first|refine aM ?_|refine sK ?_|refine sM fun _ _=>?_|refine sL fun _ _=>?_|refine sE fun _ _=>?_);go_wp2_with fail)
  refine JC _ _ 190 rfl rfl rfl 166 (.pointer none) 1 8 F9 Tryz.underlying190 rfl (by decide) (.slice (some ⟨wT.heap.size,0,none⟩) 2 2) 2 [.pointer ou,.pointer ov] rfl HOWN.out a vs.length kk vs rfl (by simp) JZ.out nO.out (by omega) (by unfold maxLen;omega) ?_;intro v2 w2 ho2 hc2 hm2;have hS:ae [] wT w2:=((ae.refl [] wT).alloc _).trans hc2 (fun x hx=>.inr (by simp [blk] at hx;omega));rw [← C9.out] at ho2;obtain⟨ra,rc,rfl,hrc,hrow⟩:=Row.jF ho2 (F:=fun b=>wT.heap.size≤b) (fun b hb=>by
   rcases hm2 b hb with h|h
   ·simp [blk] at h;omega
   ·simp at h;omega)
  have iD:=zh hrow;have Gf:=zh (show ∀ x∈bL :: blk nX,¬ wT.heap.size≤x from fun x hx=>by
   rcases List.mem_cons.1 hx with rfl|hx
   ·omega
   ·have:=pM HST.out.own x hx;omega)
  have HST:=zh (HST.out.kept hS);have iI:=zh (iI.out.kept hS);clear ho2 hc2 hrow x6 x7 x8 J2 hbe hm2;refine And.intro hS ?_;clear hS1
  repeat ((with_reducible refine gX ?_);(first|refine aM ?_|refine sK ?_|refine sM fun _ _=>?_|refine sL fun _ _=>?_|refine sE fun _ _=>?_);go_wp2_with fail)
  clear hS
  go_loopw [6,50] (fun _ i wr=>∃ (k:Nat) (rO:List Value) (os2:List (Option E)) (ky:Value) (l2:List (List UInt8)),i = .int .i64 k∧US.drop k=rO∧k≤US.length∧zV w0 bF bL bE g rO os2∧qA w0 bL ky wr l2∧mG bL nX w2 ky wr∧os2.foldl (fun l o=>iY g o l) l2=tgt∧l2.length + (os2.map iM).sum≤1000) (fun _ i _=>US.length - (intOf i).toNat)
  case atStart=>exact⟨0,US,os,nX,_,rfl,rfl,Nat.zero_le _,HKU.out,HST.out,mG.refl _ _ _,eQ.out.symm,kV.out⟩
  case round=>
   obtain⟨k,rO,os2,ky,l2,rfl,hdr,hkl,hks,hst,hmv,htot,hl2⟩:=hrel;have HS2:=zh hst;have bD:=zh hmv;have oM:=zh htot;have HL2:=zh hl2;clear hst hmv htot hl2;by_cases hlt : k < 2 + vs.length
   ·obtain⟨x,hx⟩ : ∃ x,US[k]?=some x:=⟨US[k]'(by omega),List.getElem?_eq_getElem (by omega)⟩
    have hd2 : rO=x :: US.drop (k + 1):=by
     rw [← hdr,List.drop_eq_getElem_cons (by omega)]
     congr 1
     rw [List.getElem?_eq_getElem (by omega)] at hx;exact Option.some.inj hx
    rw [hd2] at hks;obtain⟨o,os3,rfl,j3,hks⟩:=hks;obtain⟨rb,ro,rfl,hcell⟩:=(iD.out.kept bD.out.aP Gf.out).at_ (by omega);have d0:=hcell k x hx;have e0:=(HB.out.e.kept HS2.out.aP (by simpa using HB.out.ne)).cell 0 _ rfl;have Ug:=zh hks;clear hdr hd2 hks hcell hx;cases o with
    | none=>
     have hk0 : x=aJ:=j3;subst hk0;go_wp2_with fail;refine(TW bF bL bE wr).mono ?_;rintro _ _ ⟨rfl,hw⟩;have hw:=hw.symm;subst hw;go_wp2_with fail;refine⟨⟨k + 1,_,os3,ky,l2,by go_num,rfl,by omega,Ug.out,HS2.out,bD.out,oM.out,by have:=HL2.out;simp only [List.map_cons,List.sum_cons] at this;omega⟩,by simp [intOf];omega⟩
    | some y=>
     obtain⟨b,rfl,hcall⟩:=j3;have HY:=zh (show (dw g y l2).length + (os3.map iM).sum≤1000 from by have:=HL2.out;simp only [List.map_cons,List.sum_cons,iM] at this;have:=si g y l2;omega);have l5:=zh (hcall wr ky l2 HS2.out (by have:=HL2.out;simp only [List.map_cons,List.sum_cons,iM] at this;omega));clear hcall;go_wp2_with fail;refine l5.out.mono ?_;rintro _ w4 ⟨rfl,Mm,hs4,iK⟩;have nU:=zh hs4;have rT:=zh (bD.out.trans iK);clear hs4 iK d0 e0;go_wp2_with fail;refine⟨⟨k + 1,_,os3,Mm,dw g y l2,by go_num,rfl,by omega,Ug.out,nU.out,rT.out,oM.out,HY.out⟩,by simp [intOf];omega⟩
   ·have hde : rO=[]:=by rw [← hdr];exact List.drop_eq_nil_of_le (by omega)
    rw [hde] at hks;have hrs : os2=[]:=hks;have oM:=zh (show l2=tgt by rw [← oM.out,hrs];rfl);clear hdr hde hks hrs;go_wp2_with fail;refine bodyPost_end (results_none rfl _ _ _) rfl ?_;rw [← oM.out];exact⟨rfl,ky,HS2.out,iI.out.trans bD.out⟩
end Go.Proofs.YtechofppmnnomaaGreatDoor
namespace Go.Proofs.YtechofppmnnomaaGreatDoor
open Go Go.RowKit Go.Mq Go.Mq.Tree Go.Mq.Used
open Go.Mq.Check (bK dx)
set_option maxRecDepth 100000
set_option maxHeartbeats 1000000
def vN (w0:World) (bF bL bE:Nat) (g:List UInt8) (F:Nat→Prop) (e:E):Prop:=
 (∀ u,aY w0 F e [u]→Ey w0 bF bL bE g u (some e)) ∧
 ∀ us,aY w0 F e us → ∃ os:List (Option E),zV w0 bF bL bE g us os∧(∀ l,os.foldl (fun l o=>iY g o l) l=dw g e l)∧(os.map iM).sum=eT e∧us.length=dx e
section
variable {w0:World} {bF bL bE:Nat} {g:List UInt8} {F:Nat→Prop}
theorem vN.one {e:E} (hx : e.oC) (h : ∀ u,aY w0 F e [u]→Ey w0 bF bL bE g u (some e)):vN w0 bF bL bE g F e:=by
 refine⟨h,fun us he=>?_⟩;have J3 : ∃ u,us=[u]:=by
  cases e with
  | num p n=>obtain⟨b,hb,_⟩:=he;exact⟨_,hb⟩
  | var p m n=>obtain⟨b,hb,_⟩:=he;exact⟨_,hb⟩
  | item p m n i=>obtain⟨b,_,hb,_⟩:=he;exact⟨_,hb⟩
  | un p op x=>obtain⟨b,_,hb,_⟩:=he;exact⟨_,hb⟩
  | bin p op x y=>obtain⟨b,_,_,hb,_⟩:=he;exact⟨_,hb⟩
  | app p m n l=>obtain⟨b,_,_,_,hb,_⟩:=he;exact⟨_,hb⟩
  | nil=>exact hx.elim
  | cons _ _=>exact hx.elim
 obtain⟨u,rfl⟩:=J3;refine⟨[some e],⟨_,_,rfl,h u he,rfl⟩,fun l=>rfl,by simp [iM],?_⟩;cases e <;> first|rfl|exact hx.elim
theorem xV:Ey w0 bF bL bE g aJ none:=rfl
theorem Iq {e:E} {u:Value} (h:Ey w0 bF bL bE g u (some e)) : ∃ b,u = .pointer (some ⟨b,0,none⟩):=by
 obtain⟨b,hb,_⟩:=h;exact⟨b,hb⟩
theorem Uh (hB:UB w0 bF bL bE g) (lT : ∀ x,F x→x≠bL) (e:E):bK e→vN w0 bF bL bE g F e:=by
 induction e with
 | num p n=>
  refine fun _=>vN.one trivial fun u he=>?_
  obtain⟨b,hb,hF,hblk⟩:=he;cases hb
  refine⟨b,rfl,fun w lv l hst hl=>?_⟩;have ht : touch g [] [] l=l:=Ex fun h=>h.2.1 h.1.symm
  have:=BC g w0 bF bL bE hB F lT b _ _ _ _ none none [] [] none 0 [] [none,none] hblk hF (Row.nil _ _ _) (by simp) ⟨_,_,rfl,xV,_,_,rfl,xV,rfl⟩ w lv l hst (by rw [ht];simp [iM,eT] at hl ⊢;omega);rw [ht] at this;exact this
 | var p m n=>
  refine fun _=>vN.one trivial fun u he=>?_
  obtain⟨b,hb,hF,hblk⟩:=he;cases hb
  refine⟨b,rfl,fun w lv l hst hl=>?_⟩;exact BC g w0 bF bL bE hB F lT b _ _ _ _ none none m n none 0 [] [none,none] hblk hF (Row.nil _ _ _) (by simp) ⟨_,_,rfl,xV,_,_,rfl,xV,rfl⟩ w lv l hst (by have:=Bg g m n l;simp [iM,eT] at hl ⊢;omega)
 | item p m n i ih=>
  refine fun hf=>vN.one trivial fun u he=>?_
  obtain⟨b,v,hb,hF,hblk,hi⟩:=he;cases hb
  have j3:=(ih hf).1 v hi;obtain⟨bi,rfl⟩:=Iq j3;refine⟨b,rfl,fun w lv l hst hl=>?_⟩;exact BC g w0 bF bL bE hB F lT b _ _ _ _ (some ⟨bi,0,none⟩) none m n none 0 [] [some i,none] hblk hF (Row.nil _ _ _) (by simp) ⟨_,_,rfl,j3,_,_,rfl,xV,rfl⟩ w lv l hst (by have:=Bg g m n l;simp [iM,eT] at hl ⊢;omega)
 | un p op x ih=>
  refine fun hf=>vN.one trivial fun u he=>?_
  obtain⟨b,v,hb,hF,hblk,hi⟩:=he;cases hb
  have j3:=(ih hf).1 v hi;obtain⟨bi,rfl⟩:=Iq j3;refine⟨b,rfl,fun w lv l hst hl=>?_⟩;have ht : touch g [] [] l=l:=Ex fun h=>h.2.1 h.1.symm
  have:=BC g w0 bF bL bE hB F lT b _ _ _ _ (some ⟨bi,0,none⟩) none [] [] none 0 [] [some x,none] hblk hF (Row.nil _ _ _) (by simp) ⟨_,_,rfl,j3,_,_,rfl,xV,rfl⟩ w lv l hst (by rw [ht];simp [iM,eT] at hl ⊢;omega);rw [ht] at this;exact this
 | bin p op x y ih1 ih2=>
  refine fun hf=>vN.one trivial fun u he=>?_
  obtain⟨b,v,v2,hb,hF,hblk,hi,hj⟩:=he;cases hb
  have j3:=(ih1 hf.1).1 v hi;have Gd:=(ih2 hf.2).1 v2 hj;obtain⟨bi,rfl⟩:=Iq j3;obtain⟨bj,rfl⟩:=Iq Gd;refine⟨b,rfl,fun w lv l hst hl=>?_⟩;have ht : touch g [] [] l=l:=Ex fun h=>h.2.1 h.1.symm
  have:=BC g w0 bF bL bE hB F lT b _ _ _ _ (some ⟨bi,0,none⟩) (some ⟨bj,0,none⟩) [] [] none 0 [] [some x,some y] hblk hF (Row.nil _ _ _) (by simp) ⟨_,_,rfl,j3,_,_,rfl,Gd,rfl⟩ w lv l hst (by rw [ht];simp [iM,eT] at hl ⊢;omega);rw [ht] at this;exact this
 | app p m n a ih=>
  refine fun hf=>vN.one trivial fun u he=>?_
  obtain⟨b,ad,k,vs,hb,hF,hblk,_,hrow,hl0⟩:=he;cases hb
  obtain⟨os,hks,Ez,hcnt,hlen⟩:=(ih hf.2).2 vs hl0;have hfa:=hf.1;refine⟨b,rfl,fun w lv l hst hl=>?_⟩;have:=BC g w0 bF bL bE hB F lT b _ _ _ _ none none m n ad k vs (none :: none :: os) hblk hF hrow (by omega) ⟨_,_,rfl,xV,_,_,rfl,xV,hks⟩ w lv l hst (by have:=Bg g m n l;simp only [List.map_cons,List.sum_cons,iM,eT,hcnt] at hl ⊢;omega);rw [List.foldl_cons,List.foldl_cons,Ez] at this;exact this
 | nil=>exact fun _=>⟨fun u he=>(by cases (show [u]=[] from he)),fun us he=>⟨[],by rw [show us=[] from he];rfl,fun l=>rfl,rfl,by rw [show us=[] from he];rfl⟩⟩
 | cons x r ih1 ih2=>
  refine fun hf=>⟨fun u he=>?_,fun us he=>?_⟩
  ·obtain⟨v,vs,hv,h1,h2⟩:=he
   simp only [List.cons.injEq] at hv;obtain⟨rfl,rfl⟩:=hv;obtain⟨os,hks,Ez,hcnt,_⟩:=(ih2 hf.2).2 [] h2;have hrs : os=[]:=hks;subst hrs;obtain⟨b,hb,hcall⟩:=(ih1 hf.1).1 u h1;refine⟨b,hb,fun w lv l hst hl=>?_⟩;rw [dw,← Ez];exact hcall w lv l hst (by simp only [eT] at hl;omega)
  ·obtain⟨v,vs,rfl,h1,h2⟩:=he
   obtain⟨os,hks,Ez,hcnt,hlen⟩:=(ih2 hf.2).2 vs h2;exact⟨some x :: os,⟨_,_,rfl,(ih1 hf.1).1 v h1,hks⟩,fun l=>by rw [List.foldl_cons,Ez];rfl,by simp [iM,eT,hcnt],by simp [dx,hlen]⟩
end
end Go.Proofs.YtechofppmnnomaaGreatDoor
namespace Go.Mq.Used
open Go Go.RowKit Go.Mq Go.Mq.Tree
open Go.Mq.Check (bK cu dx)
def ek:S→Nat
 | .nil=>1
 | .set _ _ _ _ r=>ek r + 1
 | .ifs _ _ t e r=>ek t + ek e + ek r + 1
 | .dE _ _ t r=>ek t + ek r + 1
 | .ret _ _ r=>ek r + 1
 | .dI _ _ r=>ek r + 1
 | .call _ _ r=>ek r + 1
theorem gW (s:S) : 1≤ek s:=by cases s <;> simp [ek]
theorem adN {w:World} {b:Nat} (v0 v1 v2 v3 v4 v5 v6:Value) {u0 u1 u2 u3 u4 u5 u6:Value} {t:TypeId} (h:ag w b #[u0,u1,u2,u3,u4,u5,u6] t) : ∃ wF,(((((((w.setCell ⟨b,0,none⟩ v0).setCell ⟨b,1,none⟩ v1).setCell ⟨b,2,none⟩ v2).setCell ⟨b,3,none⟩ v3).setCell ⟨b,4,none⟩ v4).setCell ⟨b,5,none⟩ v5).setCell ⟨b,6,none⟩ v6)=wF∧ae [b] w wF∧ag wF b #[v0,v1,v2,v3,v4,v5,v6] t:=
 ⟨_,rfl,((((((ae.set1 _ _ _ _).then (ae.set1 _ _ _ _)).then (ae.set1 _ _ _ _)).then (ae.set1 _ _ _ _)).then (ae.set1 _ _ _ _)).then (ae.set1 _ _ _ _)).then (ae.set1 _ _ _ _),by
  have:=((((((h.set 0 v0).set 1 v1).set 2 v2).set 3 v3).set 4 v4).set 5 v5).set 6 v6
  simpa using this⟩
theorem adO {w:World} {F:Nat→Prop} {a:Option Addr} {cs1 cs':List Value} {c0 c1 c2 c3 c4 c5 c6:Value} {k:Nat} (h:Row w F a (cs1 ++ c0 :: c1 :: c2 :: c3 :: c4 :: c5 :: c6 :: cs')) (hl : cs1.length=k * 7) :
  ∃ bb off,a=some ⟨bb,off,none⟩∧w.cell? ⟨bb,off + k * 7,none⟩=some c0∧w.cell? ⟨bb,off + k * 7 + 1,none⟩=some c1∧w.cell? ⟨bb,off + k * 7 + 2,none⟩=some c2∧w.cell? ⟨bb,off + k * 7 + 3,none⟩=some c3∧w.cell? ⟨bb,off + k * 7 + 4,none⟩=some c4∧w.cell? ⟨bb,off + k * 7 + 5,none⟩=some c5∧w.cell? ⟨bb,off + k * 7 + 6,none⟩=some c6:=by
 obtain⟨bb,off,rfl,hc⟩:=h.at_ (by simp only [List.length_append,List.length_cons];omega);have g : ∀ i v,(c0 :: c1 :: c2 :: c3 :: c4 :: c5 :: c6 :: cs')[i]?=some v→w.cell? ⟨bb,off + k * 7 + i,none⟩=some v:=fun i v hv=>by
  rw [Nat.add_assoc];refine hc (k * 7 + i) v ?_;rw [← hl,List.getElem?_append_right (by omega),Nat.add_sub_cancel_left];exact hv
 exact⟨bb,off,rfl,by simpa using g 0 _ rfl,g 1 _ rfl,g 2 _ rfl,g 3 _ rfl,g 4 _ rfl,g 5 _ rfl,g 6 _ rfl⟩
structure adP (w:World) (F:Nat→Prop) (s:S) (cs:List Value) (oi:Option E) (v:E) (st se r:S) (c0 c1:Int) (nm:List UInt8) (ui uv:Value) (a1:Option Addr) (k1:Nat) (a2:Option Addr) (k2:Nat) (cs':List Value):Prop where
 cells : cs = .int .i64 c0 :: .int .i64 c1 :: str nm :: ui :: uv :: .slice a1 st.len k1 :: .slice a2 se.len k2 :: cs'
 index:ow w F oi ui
 value:aY w F v [uv]
 adQ:fT w F st (.slice a1 st.len k1)
 adR:fT w F se (.slice a2 se.len k2)
 rest:dJ w F r cs'
 use : ∀ g l,dA g s l=dA g r (dA g se (dA g st (dw g v (iY g oi l))))
 cnt : dD s=iM oi + eT v + dD st + dD se + dD r
 len : s.len=r.len + 1
 s1 : ek st < ek s
 s2 : ek se < ek s
 s3 : ek r < ek s
 few:cu s→(∀ x,oi=some x→bK x)∧bK v∧(cu st∧st.len≤1000)∧(cu se∧se.len≤1000)∧cu r
theorem vO (w:World) (F:Nat→Prop):fT w F .nil (.slice none S.nil.len 0):=⟨none,0,[],rfl,Nat.le_refl _,Row.nil _ _ _,rfl⟩
theorem adS {w:World} {F:Nat→Prop} {s:S} {cs:List Value} (h:dJ w F s cs) (hn : s ≠ .nil) : ∃ oi v st se r c0 c1 nm ui uv a1 k1 a2 k2 cs',adP w F s cs oi v st se r c0 c1 nm ui uv a1 k1 a2 k2 cs':=by
 cases s with
 | nil=>exact absurd rfl hn
 | set p n i v r=>
  obtain⟨ui,uv,cs',rfl,h2,h3,h4⟩:=h;exact⟨i,v,.nil,.nil,r,1,p,n,ui,uv,none,0,none,0,cs',rfl,h2,h3,vO _ _,vO _ _,h4,fun _ _=>rfl,by simp [dD],rfl,by have:=gW r;simp only [ek];omega,by have:=gW r;simp only [ek];omega,by have:=gW r;simp only [ek];omega,fun hf=>⟨hf.1,hf.2.1,⟨trivial,by simp [S.len]⟩,⟨trivial,by simp [S.len]⟩,hf.2.2⟩⟩
 | ifs p v t e r=>
  obtain⟨uv,a1,c1,ts,a2,c2,es,cs',rfl,h2,h3,h4,h5,h6,h7,h8,h9⟩:=h;exact⟨none,v,t,e,r,2,p,[],aJ,uv,a1,c1,a2,c2,cs',rfl,rfl,h2,⟨_,_,_,rfl,h3,h4,h5⟩,⟨_,_,_,rfl,h6,h7,h8⟩,h9,fun _ _=>rfl,by simp [dD,iM],rfl,by have:=gW r;have:=gW t;have:=gW e;simp only [ek];omega,by have:=gW r;have:=gW t;have:=gW e;simp only [ek];omega,by have:=gW r;have:=gW t;have:=gW e;simp only [ek];omega,fun hf=>⟨fun x hx=>(by cases hx),hf.1,⟨hf.2.1,hf.2.2.1⟩,⟨hf.2.2.2.1,hf.2.2.2.2.1⟩,hf.2.2.2.2.2⟩⟩
 | dE p v t r=>
  obtain⟨uv,a1,c1,ts,cs',rfl,h2,h3,h4,h5,h6⟩:=h;exact⟨none,v,t,.nil,r,3,p,[],aJ,uv,a1,c1,none,0,cs',rfl,rfl,h2,⟨_,_,_,rfl,h3,h4,h5⟩,vO _ _,h6,fun _ _=>rfl,by simp [dD,iM],rfl,by have:=gW r;have:=gW t;simp only [ek];omega,by have:=gW r;have:=gW t;simp only [ek];omega,by have:=gW r;have:=gW t;simp only [ek];omega,fun hf=>⟨fun x hx=>(by cases hx),hf.1,⟨hf.2.1,hf.2.2.1⟩,⟨trivial,by simp [S.len]⟩,hf.2.2.2⟩⟩
 | ret p v r=>
  obtain⟨uv,cs',rfl,h2,h3⟩:=h;exact⟨none,v,.nil,.nil,r,4,p,[],aJ,uv,none,0,none,0,cs',rfl,rfl,h2,vO _ _,vO _ _,h3,fun _ _=>rfl,by simp [dD,iM],rfl,by have:=gW r;simp only [ek];omega,by have:=gW r;simp only [ek];omega,by have:=gW r;simp only [ek];omega,fun hf=>⟨fun x hx=>(by cases hx),hf.1,⟨trivial,by simp [S.len]⟩,⟨trivial,by simp [S.len]⟩,hf.2⟩⟩
 | dI p v r=>
  obtain⟨uv,cs',rfl,h2,h3⟩:=h;exact⟨none,v,.nil,.nil,r,5,p,[],aJ,uv,none,0,none,0,cs',rfl,rfl,h2,vO _ _,vO _ _,h3,fun _ _=>rfl,by simp [dD,iM],rfl,by have:=gW r;simp only [ek];omega,by have:=gW r;simp only [ek];omega,by have:=gW r;simp only [ek];omega,fun hf=>⟨fun x hx=>(by cases hx),hf.1,⟨trivial,by simp [S.len]⟩,⟨trivial,by simp [S.len]⟩,hf.2⟩⟩
 | call p v r=>
  obtain⟨uv,cs',rfl,h2,h3⟩:=h;exact⟨none,v,.nil,.nil,r,6,p,[],aJ,uv,none,0,none,0,cs',rfl,rfl,h2,vO _ _,vO _ _,h3,fun _ _=>rfl,by simp [dD,iM],rfl,by have:=gW r;simp only [ek];omega,by have:=gW r;simp only [ek];omega,by have:=gW r;simp only [ek];omega,fun hf=>⟨fun x hx=>(by cases hx),hf.1,⟨trivial,by simp [S.len]⟩,⟨trivial,by simp [S.len]⟩,hf.2⟩⟩
theorem len_nil {s:S} (h : s.len=0) : s = .nil:=by
 cases s <;> first|rfl|(simp [S.len] at h)
end Go.Mq.Used
namespace Go.Proofs.YtechofppmnnomaaGreatDoor
open Go Go.RowKit Go.Mq Go.Mq.Tree Go.Mq.Used
open Go.Mq.Check (bK cu dx)
set_option maxRecDepth 100000
set_option maxHeartbeats 4000000
theorem adT {w0:World} {bF bL bE:Nat} {g:List UInt8} {F:Nat→Prop} (hB:UB w0 bF bL bE g) (lT : ∀ x,F x→x≠bL) {oi:Option E} {u:Value} (h:ow w0 F oi u) (hf : ∀ x,oi=some x→bK x) (w:World) (lv:Value) (l:List (List UInt8)) (hst:qA w0 bL lv w l) (hl : l.length + iM oi≤1000) :
  ∃ ou,u = .pointer ou∧Calls Tryz.prog 93 #[.pointer ou,ptr bF,ptr bL,ptr bE] w (Im w0 bL lv w (iY g oi l)):=by
 cases oi with
 | none=>
  have hu : u=aJ:=h;subst hu;refine⟨none,rfl,(TW bF bL bE w).mono ?_⟩;rintro _ _ ⟨rfl,rfl⟩;exact⟨rfl,lv,hst,mG.refl _ _ _⟩
 | some x=>
  obtain⟨b,rfl,hc⟩:=(Uh hB lT x (hf x rfl)).1 u h;exact⟨_,rfl,hc w lv l hst hl⟩
theorem adU {w0:World} {bF bL bE bB:Nat} {g:List UInt8} {F:Nat→Prop} (hB:UB w0 bF bL bE g) (lT : ∀ x,F x→x≠bL) (aiI : ∀ x,F x→x < w0.heap.size) (hbb:ag w0 bB #[.func (.func 94) #[] #[ptr bE,ptr bB]] 158) (hbL : bB≠bL) :
  ∀ (z:Nat) (s:S),ek s≤z→cu s→s.len≤1000 → ∀ v,fT w0 F s v → ∀ w lv l,qA w0 bL lv w l→l.length + dD s≤1000→Calls Tryz.prog 94 #[v,ptr bE,ptr bB] w (Im w0 bL lv w (dA g s l)):=by
 intro z
 induction z with
 | zero=>intro s hz;have:=gW s;omega
 | succ z ih=>
  intro s hz dK hlen v hv w lv l hst hln;obtain⟨a,c,cs,rfl,hac,hrow,Ui⟩:=hv;have HB:=zh hB;have qg:=zh hbb;have iD:=zh hrow;have HST:=zh hst;have IH:=zh ih;have uh:=zh lT;have adV:=zh Ui;have qc:=zh dK;have adJ:=hB.lt;obtain⟨tgt,fw⟩ : ∃ t,t=dA g s l:=⟨_,rfl⟩
  rw [← fw];have eQ:=zh fw;clear hB hbb hrow hst ih Ui fw lT dK
  go_enter Tryz.func94,Tryz.ntmps94
  go_wp2_with fail
  go_loopw [5,8] (fun _ i wr=>∃ (k:Nat) (r:S) (cs1 cs':List Value) (ky:Value) (l2:List (List UInt8)),i = .int .i64 k∧cs=cs1 ++ cs'∧cs1.length=k * 7∧dJ w0 F r cs'∧k + r.len=s.len∧ek r≤ek s∧cu r∧qA w0 bL ky wr l2∧mG bL lv w ky wr∧dA g r l2=tgt∧l2.length + dD r≤1000) (fun _ i _=>s.len - (intOf i).toNat)
  case atStart=>exact⟨0,s,[],cs,lv,l,rfl,rfl,rfl,adV.out,by omega,Nat.le_refl _,qc.out,HST.out,mG.refl _ _ _,eQ.out.symm,hln⟩
  case round=>
   obtain⟨k,r,cs1,cs',ky,l2,rfl,hcs,Mo,Mr,hkr,Uj,hfr,Mt,Mv,htot,hl2⟩:=hrel;have HS2:=zh Mt;have bD:=zh Mv;have oM:=zh htot;by_cases hlt : k < s.len
   ·have hrn : r ≠ .nil:=fun h=>by rw [h] at hkr;simp [S.len] at hkr;omega
    obtain⟨oi,ev,st,se,r2,c0,c1,nm,ui,uv,a1,k1,a2,k2,cs2,hvw⟩:=adS Mr hrn;have Mw:=zh hvw;have hcells:=hvw.cells;rw [hcells] at hcs;rw [hcs] at iD;obtain⟨bb,off,rfl,d0,d1,d2,d3,d4,d5,d6⟩:=adO (iD.out.kept HS2.out.aP (fun x hx hF=>by simp at hx;subst hx;exact uh.out _ hF rfl)) Mo;have hfw:=hvw.few hfr;have hcnt:=hvw.cnt;have HHD:=zh (show r.len=r2.len + 1 from hvw.len);have HZ:=zh (show ek st≤z∧ek se≤z∧ek r2≤ek s from by have h1:=hvw.s1;have h2:=hvw.s2;have h3:=hvw.s3;omega);have EA:=zh hfw;have hz:=ag.new wr #[.int .i64 0,.int .i64 0,str [],aJ,aJ,ah,ah] 168;obtain⟨wA,az⟩ : ∃ w',wr.alloc (.cells #[.int .i64 0,.int .i64 0,str [],aJ,aJ,ah,ah] 168)=w':=⟨_,rfl⟩
    rw [az] at hz;have hcA:ae [] wr wA:=by rw [← az];exact(ae.refl _ _).alloc _
    obtain⟨wF,hwF,aV,aG⟩:=adN (.int .i64 c0) (.int .i64 c1) (str nm) ui uv (.slice a1 st.len k1) (.slice a2 se.len k2) hz;have hcw:ae [] wr wF:=hcA.trans aV (fun x hx=>.inr (by simp at hx;omega));have z0:=hz.cell 0 _ rfl;have z1:=hz.cell 1 _ rfl;have z2:=hz.cell 2 _ rfl;have z3:=hz.cell 3 _ rfl;have z4:=hz.cell 4 _ rfl;have z5:=hz.cell 5 _ rfl;have z6:=hz.cell 6 _ rfl;have y0:=hz.frozen 0;have y1:=hz.frozen 1;have y2:=hz.frozen 2;have y3:=hz.frozen 3;have y4:=hz.frozen 4;have y5:=hz.frozen 5;have y6:=hz.frozen 6;have EB:=zh (HS2.out.kept hcw);have Mx:=zh (bD.out.kept hcw);have qM:=zh aG;have oL:=zh (show wr.heap.size∉bL :: blk ky from fun hm=>by
     rcases List.mem_cons.1 hm with h|h
     ·have:=HS2.out.aP.size;omega
     ·have:=pM HS2.out.own _ h;omega)
    have hl3 : l2.length + iM oi≤1000:=by omega
    have Az : (iY g oi l2).length + eT ev≤1000:=by have:=D6 g oi l2;omega
    have Uk : (dw g ev (iY g oi l2)).length + dD st≤1000:=by have:=D6 g oi l2;have:=si g ev (iY g oi l2);omega
    have Ul : (dA g st (dw g ev (iY g oi l2))).length + dD se≤1000:=by have:=D6 g oi l2;have:=si g ev (iY g oi l2);have:=zD g st (dw g ev (iY g oi l2));omega
    have adX:=zh (show (dA g se (dA g st (dw g ev (iY g oi l2)))).length + dD r2≤1000 by have:=D6 g oi l2;have:=si g ev (iY g oi l2);have:=zD g st (dw g ev (iY g oi l2));have:=zD g se (dA g st (dw g ev (iY g oi l2)));omega);have adY:=zh (hvw.use g l2);obtain⟨oui,hoe,hc1⟩:=adT HB.out uh.out hvw.index hfw.1 wF ky l2 EB.out hl3;subst hoe;obtain⟨ob,hbe,hcv⟩:=(Uh HB.out uh.out ev hfw.2.1).1 uv hvw.value;subst hbe;have cZ:=zh hc1;have fP:=zh hcv;have kV:=zh Az;have ad1:=zh Uk;have ad2:=zh Ul;have jk:=zh hcs;have e0:=(HB.out.e.kept EB.out.aP (by simpa using HB.out.ne)).cell 0 _ rfl;have x3 : wF.cell? ⟨wr.heap.size,3,none⟩=_:=qM.out.cell 3 _ rfl;clear hz hcA aV aG hcw hc1 hcv Az Uk Ul hvw hfw hcells Mr Uj hfr Mt Mv htot hl2 hl3 hcs hcnt;go_wp2_with fail;clear d0 d1 d2 d3 d4 d5 d6 z0 z1 z2 z3 z4 z5 z6 y0 y1 y2 y3 y4 y5 y6 az hwF x3 e0;refine cZ.out.mono ?_;rintro _ wb ⟨rfl,Ir,hs3,kI⟩;have mY:=zh hs3;have lK:=zh kI;have x4:=(qM.out.kept lK.out.aP oL.out).cell 4 _ rfl;have e0:=(HB.out.e.kept mY.out.aP (by simpa using HB.out.ne)).cell 0 _ rfl;have aD:=zh (fP.out wb Ir (iY g oi l2) mY.out kV.out);clear hs3 kI;go_wp2_with fail;clear x4 e0;refine aD.out.mono ?_;rintro _ wc ⟨rfl,Mm,hs4,iK⟩;have nU:=zh hs4;have rT:=zh (lK.out.trans iK);have x5:=(qM.out.kept rT.out.aP oL.out).cell 5 _ rfl;have b0:=(qg.out.kept nU.out.aP (by simpa using hbL)).cell 0 _ rfl;have bG:=zh (IH.out st HZ.out.1 EA.out.2.2.1.1 EA.out.2.2.1.2 _ Mw.out.adQ wc Mm _ nU.out ad1.out);clear hs4 iK;go_wp2_with fail;clear x5 b0;refine bG.out.mono ?_;rintro _ wd ⟨rfl,lv5,hs5,rU⟩;have pq:=zh hs5;have oV:=zh (rT.out.trans rU);have x6:=(qM.out.kept oV.out.aP oL.out).cell 6 _ rfl;have b0:=(qg.out.kept pq.out.aP (by simpa using hbL)).cell 0 _ rfl;have cz:=zh (IH.out se HZ.out.2.1 EA.out.2.2.2.1.1 EA.out.2.2.2.1.2 _ Mw.out.adR wd lv5 _ pq.out ad2.out);clear hs5 rU;go_wp2_with fail;clear x6 b0;refine cz.out.mono ?_;rintro _ we ⟨rfl,lv6,hs6,xE⟩;have BA:=zh hs6;have vE:=zh (Mx.out.trans (oV.out.trans xE));clear hs6 xE;go_wp2_with fail;refine⟨⟨k + 1,r2,cs1 ++ [.int .i64 c0,.int .i64 c1,str nm,.pointer oui,.pointer (some ⟨ob,0,none⟩),.slice a1 st.len k1,.slice a2 se.len k2],cs2,lv6,_,by go_num,by rw [jk.out];simp,by simp [Mo];omega,Mw.out.rest,by have:=HHD.out;omega,HZ.out.2.2,EA.out.2.2.2.2,BA.out,vE.out,?_,adX.out⟩,by simp [intOf];omega⟩;rw [← oM.out,adY.out]
   ·have hrn : r = .nil:=len_nil (by omega)
    have HR:=zh (show l2=tgt by rw [← oM.out,hrn];rfl);clear hcs Mo Mr hkr Uj hfr Mt Mv htot hl2 hrn;go_wp2_with fail;refine bodyPost_end (results_none rfl _ _ _) rfl ?_;rw [← HR.out];exact⟨rfl,ky,HS2.out,bD.out⟩
end Go.Proofs.YtechofppmnnomaaGreatDoor
