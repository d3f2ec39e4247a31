/- Some texts in one. -/
import Derived.Test.YtechofppmnnomaaGreatDoorA14
import Derived.Test.YtechofppmnnomaaGreatDoorA25
import Derived.Test.YtechofppmnnomaaGreatDoorA29
namespace Go.Mq.Used
open Go Go.RowKit Go.Mq Go.Mq.Tree
structure UB (w0:World) (bF bL bE:Nat) (g:List UInt8):Prop where
 f:ag w0 bF #[str g] 9
 e:ag w0 bE #[.func (.func 93) #[] #[ptr bF,ptr bL,ptr bE]] 189
 nf : bF≠bL
 ne : bE≠bL
 lt : bL < w0.heap.size
structure qx (w0:World) (bL:Nat) (lv:Value) (w:World) (l:List (List UInt8)):Prop where
 aV:ae [bL] w0 w
 box:ag w bL #[lv] 27
 own : w.ownsRow 0 9 1 lv l.length (l.map str)
 past : ∀ g∈blk lv,w0.heap.size≤g
structure mH (bL:Nat) (lv:Value) (w:World) (Iw:Value) (w':World):Prop where
 aV:ae (bL :: blk lv) w w'
 mv : ∀ g∈blk Iw,g∈blk lv∨w.heap.size≤g
theorem mH.refl (bL:Nat) (lv:Value) (w:World):mH bL lv w lv w:=⟨ae.refl _ _,fun _ h=>.inl h⟩
theorem mH.trans {bL:Nat} {lv og ky:Value} {w w1 w2:World} (h:mH bL lv w og w1) (k:mH bL og w1 ky w2):mH bL lv w ky w2:=by
 refine⟨h.aV.trans k.aV fun x hx=>?_,fun g hg=>?_⟩
 ·rcases List.mem_cons.1 hx with rfl|hx
  ·exact .inl (by simp)
  ·rcases h.mv x hx with h1|h1
   ·exact .inl (by simp [h1])
   ·exact .inr h1
 ·rcases k.mv g hg with h1|h1
  ·exact h.mv g h1
  ·exact .inr (by have:=h.aV.size;omega)
theorem mH.kept {bL:Nat} {lv og:Value} {w w1 w2:World} (h:mH bL lv w og w1) (hc:ae [] w1 w2):mH bL lv w og w2:=⟨h.aV.then hc.weak,h.mv⟩
theorem qx.kept {w0:World} {bL:Nat} {lv:Value} {w w':World} {l:List (List UInt8)} (h:qx w0 bL lv w l) (hc:ae [] w w'):qx w0 bL lv w' l:=
 ⟨h.aV.then hc.weak,h.box.kept hc (by simp),cK h.own hc (fun _ _ h=>by cases h),h.past⟩
def Iy (w0:World) (bL:Nat) (lv:Value) (w:World) (l':List (List UInt8)) (e:Ending) (w':World):Prop:=e = .returned (.tuple #[]) ∧ ∃ Iw,qx w0 bL Iw w' l'∧mH bL lv w Iw w'
theorem ad5 {g m n:List UInt8} {l:List (List UInt8)} (h1 : m=g) (h2 : g≠[]) (h3 : n∉l) : touch g m n l=l ++ [n]:=by rw [touch,if_pos ⟨h1,h2,h3⟩]
theorem EA {g m n:List UInt8} {l:List (List UInt8)} (h : ¬ (m=g∧g≠[]∧n∉l)) : touch g m n l=l:=by rw [touch,if_neg h]
end Go.Mq.Used
namespace Go.Proofs.YtechofppmnnomaaGreatDoor
open Go Go.RowKit Go.Mq Go.Mq.Tree Go.Mq.Used
set_option maxRecDepth 100000
set_option maxHeartbeats 4000000
def EB (w0:World) (bF bL bE:Nat) (g:List UInt8) (u:Value):Option E→Prop
 | none=>u=aI
 | some x=>∃ b,u=ptr b ∧ ∀ w lv l,qx w0 bL lv w l→l.length + eU x≤1000→Calls Tryz.prog 93 #[ptr b,ptr bF,ptr bL,ptr bE] w (Iy w0 bL lv w (dn g x l))
def zT (w0:World) (bF bL bE:Nat) (g:List UInt8):List Value→List (Option E)→Prop
 | [],os=>os=[]
 | u :: us,os=>∃ o os',os=o :: os'∧EB w0 bF bL bE g u o∧zT w0 bF bL bE g us os'
theorem zT.one {w0:World} {bF bL bE:Nat} {g:List UInt8} : ∀ {us:List Value} {os:List (Option E)},zT w0 bF bL bE g us os → ∀ x∈us,x.oneCell'=true
 | [],_,_=>by simp
 | u :: us,_,h=>by
  obtain⟨o,os',rfl,hk,h⟩:=h;intro x hx;rcases List.mem_cons.1 hx with rfl|hx
  ·cases o with
   | none=>rw [show x=aI from hk];rfl
   | some y=>obtain⟨b,rfl,_⟩:=hk;rfl
  ·exact h.one x hx
theorem Um (bF bL bE:Nat) (w:World):Calls Tryz.prog 93 #[aI,ptr bF,ptr bL,ptr bE] w (fun e w'=>e = .returned (.tuple #[])∧w'=w):=by
 go_enter Tryz.func93,Tryz.ntmps93
 go_wp2_with fail;refine bodyPost_ret (v:=.tuple #[]) (results_none rfl _ _ _) rfl ?_;exact⟨rfl,rfl⟩
theorem BJ (g:List UInt8) (w0:World) (bF bL bE:Nat) (hB:UB w0 bF bL bE g) (F:Nat→Prop) (lZ : ∀ x,F x→x≠bL) (be:Nat) (c0 c1 c2 c5:Value) (ou ov:Option Addr) (m n:List UInt8) (a:Option Addr) (kk:Nat) (vs:List Value) (os:List (Option E))
  (hx:ag w0 be #[c0,c1,c2,str m,str n,c5,.pointer ou,.pointer ov,.slice a vs.length kk] 192) (hbe:F be) (hat:Row w0 F a vs) (dJ : vs.length≤1000) (hks:zT w0 bF bL bE g (.pointer ou :: .pointer ov :: vs) os) (w:World) (og:Value) (l:List (List UInt8)) (hst:qx w0 bL og w l) (hlen : (touch g m n l).length + (os.map iT).sum≤1000) :
  Calls Tryz.prog 93 #[ptr be,ptr bF,ptr bL,ptr bE] w (Iy w0 bL og w (os.foldl (fun l o=>jd g o l) (touch g m n l))):=by
 have HB:=zh hB;have HX:=zh hx;have HAT:=zh hat;have tQ:=zh hks;have HST:=zh hst;have iP:=zh (mH.refl bL og w);have vL:=lZ be hbe;have ad6:=hB.lt;have ad7 : l.length≤1000:=by
  rw [touch] at hlen;split at hlen
  ·simp at hlen;omega
  ·omega
 have iq:=zh (show be < w0.heap.size from hx.lt);clear hB hx hat hks hst;obtain⟨tgt,fA⟩ : ∃ t,t=os.foldl (fun l o=>jd g o l) (touch g m n l):=⟨_,rfl⟩
 rw [← fA];by_cases h0 : m=g∧g≠[]
 rotate_left
 focus
  have htn : touch g m n l=l:=EA fun h=>h0 ⟨h.1,h.2.1⟩
  rw [htn] at fA hlen;have eT:=zh fA;have kY:=zh hlen;clear fA htn hlen;by_cases h1 : m=g
  focus
   have Un : (g == [])=true:=by simpa using fun h=>h0 ⟨h1,h⟩
   have h1':=h1.symm;subst h1';clear h1
  rotate_left
  focus
   have h1b : (m == g)=false:=by simpa using h1
  all_goals
   go_enter Tryz.func93,Tryz.ntmps93
   go_wp2_with fail;obtain⟨wK,aH⟩ : ∃ x,x=w.drew:=⟨_,rfl⟩
   have aQ:ae [] w wK:=by rw [aH];exact(ae.refl [] w).drew
   have HST:=zh (HST.out.kept aQ);have iP:=zh (iP.out.kept aQ);clear aQ;have x3 : wK.cell? ⟨be,3,none⟩=_:=(HX.out.kept HST.out.aV (by simpa using vL)).cell 3 _ rfl;have x4 : wK.cell? ⟨be,4,none⟩=_:=(HX.out.kept HST.out.aV (by simpa using vL)).cell 4 _ rfl;have f0 : wK.cell? ⟨bF,0,none⟩=_:=(HB.out.f.kept HST.out.aV (by simpa using HB.out.nf)).cell 0 _ rfl;refine kX [] rfl (by kernel_rfl) ?_;rw [← aH];clear aH;have hS:ae [] wK wK:=ae.refl _ _
   repeat ((with_reducible refine gX ?_);(first|refine aL ?_|refine sK ?_|refine sM fun _ _=>?_|refine sL fun _ _=>?_|refine sE fun _ _=>?_);go_wp2_with fail)
   clear hS x3 x4 f0;go_wp2_with fail
 rotate_left 2
 focus
  obtain⟨h1,h2⟩:=h0;by_cases h3 : n∈l
  focus
   have htn : touch g m n l=l:=EA fun h=>h.2.2 h3
   have ME : decide (n∈l)=true:=by simpa using h3
  rotate_left
  focus
   have htn : touch g m n l=l ++ [n]:=ad5 h1 h2 h3;have ME : decide (n∈l)=false:=by simpa using h3
  all_goals
   rw [htn] at fA hlen;have eT:=zh fA;have kY:=zh hlen;clear fA htn hlen;have Un : (g == [])=false:=by simpa using h2
   have h1':=h1.symm;subst h1';clear h1
   go_enter Tryz.func93,Tryz.ntmps93
   go_wp2_with fail;obtain⟨wD,aH⟩ : ∃ x,x=w.drew:=⟨_,rfl⟩
   have aQ:ae [] w wD:=by rw [aH];exact(ae.refl [] w).drew
   have HST:=zh (HST.out.kept aQ);have iP:=zh (iP.out.kept aQ);clear aQ;have x3 : wD.cell? ⟨be,3,none⟩=_:=(HX.out.kept HST.out.aV (by simpa using vL)).cell 3 _ rfl;have x4 : wD.cell? ⟨be,4,none⟩=_:=(HX.out.kept HST.out.aV (by simpa using vL)).cell 4 _ rfl;have f0 : wD.cell? ⟨bF,0,none⟩=_:=(HB.out.f.kept HST.out.aV (by simpa using HB.out.nf)).cell 0 _ rfl;have hlv:=HST.out.own;obtain⟨la,lc,rfl⟩:=gq hlv;have l0 : wD.cell? ⟨bL,0,none⟩=_:=HST.out.box.cell 0 _ rfl;obtain⟨na,nc,nV,hnc,Uo⟩:=Row.jU hlv (F:=fun _=>True) (fun _ _=>trivial);cases nV
   have fw:=zh (Db l ad7 n _ (.slice la l.length lc) wD ⟨_,_,rfl,hnc,Uo⟩);rw [ME] at fw;clear hlv Uo hnc;refine kX [] rfl (by kernel_rfl) ?_;rw [← aH];clear aH;have hS:ae [] wD wD:=ae.refl _ _
   repeat ((with_reducible refine gX ?_);(first|refine aL ?_|refine sK ?_|refine sM fun _ _=>?_|refine sL fun _ _=>?_|refine sE fun _ _=>?_);go_wp2_with fail)
   refine fw.out.mono ?_;rintro _ _ ⟨rfl,hw⟩;have hw:=hw.symm;subst hw;go_wp2_with fail;refine And.intro hS ?_
   repeat ((with_reducible refine gX ?_);(first|refine aL ?_|refine sK ?_|refine sM fun _ _=>?_|refine sL fun _ _=>?_|refine sE fun _ _=>?_);go_wp2_with fail)
   clear hS x3 x4 f0 l0 Un ME;go_wp2_with fail
  focus
   have hl2 : (l ++ [n]).length≤1000:=by have:=kY.out;omega
   rw [List.length_append,List.length_singleton] at hl2;obtain⟨wU,Bv⟩ : ∃ x,x=wD:=⟨_,rfl⟩
   subst Bv;obtain⟨wE,bW⟩ : ∃ x,x=wU.drew:=⟨_,rfl⟩
   have aQ:ae [] wU wE:=by rw [bW];exact(ae.refl [] wU).drew
   have HST:=zh (HST.out.kept aQ);have iP:=zh (iP.out.kept aQ);clear aQ;have x4 : wE.cell? ⟨be,4,none⟩=_:=(HX.out.kept HST.out.aV (by simpa using vL)).cell 4 _ rfl;have l0 : wE.cell? ⟨bL,0,none⟩=_:=HST.out.box.cell 0 _ rfl;have HOD:=zh HST.out.own;have Iz:=HST.out.past;have aiM : w0.heap.size≤wE.heap.size:=HST.out.aV.size;have hbv : bL∉blk (.slice la l.length lc):=fun hm=>by have:=Iz _ hm;omega
   have Uq:=qC HST.out.own;have nV : be∉blk (.slice la l.length lc):=fun hm=>by have:=Iz _ hm;have:=iq.out;omega
   have Z1:=zh (bX.of (X:=blk (.slice la l.length lc)) (w0:=wE) l0 hbv);have Z2:=zh (bX.of (X:=blk (.slice la l.length lc)) (w0:=wE) x4 nV);have Em:=zh hbv;have Ur:=zh Iz;have aiN:=zh Uq;have oH : be≠wE.heap.size:=by have:=iq.out;omega
   have aiO : bL≠wE.heap.size:=by omega
   clear nV hbv Iz Uq;refine AO (blk (.slice la l.length lc)) rfl (by kernel_rfl) rfl ?_;rw [← bW];clear bW;have hS:ae (blk (.slice la l.length lc)) wE wE:=ae.refl _ _
   repeat ((with_reducible refine gX ?_);(first|refine aL ?_|refine sK ?_|refine sM fun _ _=>?_|refine sL (hz:=by first|exact Z1.out|exact Z2.out) fun _ _=>?_|refine sE fun _ _=>?_);go_wp2_with fail)
   refine And.intro (hS.alloc _) ?_;have hS1:ae (blk (.slice la l.length lc)) wE (wE.alloc (.cells #[str n] 9)):=hS.alloc _
   repeat ((with_reducible refine gX ?_);(first|refine aL ?_|refine sK ?_|refine sM fun _ _=>?_|refine sL (hz:=by first|exact Z1.out|exact Z2.out) fun _ _=>?_|refine sE fun _ _=>?_);go_wp2_with fail)
   refine Us _ _ 27 rfl rfl rfl 9 (.string ⟨#[]⟩) 1 16 AR Tryz.underlying27 rfl (by decide) (.slice la l.length lc) l.length (l.map str) rfl (cK HOD.out ((ae.refl [] _).alloc _) (fun _ _ h=>by cases h)) ⟨wE.heap.size,0,none⟩ 1 1 [str n] rfl rfl (uL _ _ _) (by simp [Value.oneCell']) (by omega) (by unfold maxLen;omega) ?_;intro v4 w4 pz hc4 iL;have IA:ae (blk (.slice la l.length lc)) wE w4:=(hS.alloc _).then hc4
   obtain⟨va,vc,rfl⟩:=gq pz;have hb4:=HST.out.box.kept IA Em.out;have c4:=hb4.cell 0 _ rfl;have f4:=hb4.frozen 0;obtain⟨wG,FT⟩ : ∃ x,w4.setCell ⟨bL,0,none⟩ (.slice va (l.length + 1) vc)=x:=⟨_,rfl⟩
   have Cz:ag wG bL #[.slice va (l.length + 1) vc] 27:=by rw [← FT];simpa using hb4.set 0 (.slice va (l.length + 1) vc)
   have gI:ae [bL] w4 wG:=by rw [← FT];exact ae.set1 _ _ _ _
   have MF : ∀ g∈blk (.slice va (l.length + 1) vc),g∈blk (.slice la l.length lc)∨wE.heap.size≤g:=fun g hg=>by
    rcases iL g hg with h|h
    ·exact .inl h
    ·simp at h;exact .inr (by omega)
   have MG : ∀ g∈blk (.slice va (l.length + 1) vc),w0.heap.size≤g:=fun g hg=>by
    rcases MF g hg with h|h
    ·exact Ur.out g h
    ·omega
   have Ut : wG.ownsRow 0 9 1 (.slice va (l.length + 1) vc) (l ++ [n]).length ((l ++ [n]).map str):=by
    have h1:=cK pz gI (fun g hg hm=>by have:=MG g hg;simp at hm;omega);rw [List.map_append,List.length_append];exact h1
   have MH:ae (bL :: blk (.slice la l.length lc)) wE wG:=(IA.mono fun x hx=>.inl (by simp [hx])).trans gI (fun x hx=>.inl (by simp at hx;simp [hx]));have Uu:=zh (show qx w0 bL (.slice va (l.length + 1) vc) wG (l ++ [n]) from⟨HST.out.aV.trans MH (fun x hx=>by
    rcases List.mem_cons.1 hx with rfl|hx
    ·exact .inl (by simp)
    ·exact .inr (Ur.out x hx)),Cz,Ut,MG⟩)
   have Uv:=zh (iP.out.trans ⟨MH,MF⟩);clear pz hc4 iL hb4 Cz gI MF MG Ut MH;refine And.intro IA ?_
   repeat ((with_reducible refine gX ?_);(first|refine aL ?_|refine sK ?_|refine sM fun _ _=>?_|refine sL (hz:=by first|exact Z1.out|exact Z2.out) fun _ _=>?_|refine sE fun _ _=>?_);go_wp2_with fail)
   refine tN rfl rfl (fun _ _=>?_)
   change Oper.wp _ (Oper.mk ..) ..
   go_wp2_with fail;clear FT c4 f4 hS hS1 IA x4 l0 Z1 Z2;have HST:=Uu;have iP:=Uv;clear Uu Uv;obtain⟨og,hlv1⟩ : ∃ x,x=Value.slice va (l.length + 1) vc:=⟨_,rfl⟩
   rw [← hlv1] at HST iP;clear hlv1;obtain⟨wK,rfl⟩ : ∃ x,x=wG:=⟨_,rfl⟩
  rotate_left
  focus
   have Uw:=iP;clear iP;obtain⟨og,hlv1⟩ : ∃ x,x=Value.slice la l.length lc:=⟨_,rfl⟩
   have iP:=zh (show mH bL (.slice la l.length lc) w og wD by rw [hlv1];exact Uw.out);rw [← hlv1] at HST;clear hlv1 Uw;obtain⟨wK,rfl⟩ : ∃ x,x=wD:=⟨_,rfl⟩
 all_goals
  obtain⟨wT,aH⟩ : ∃ x,x=wK.drew:=⟨_,rfl⟩
  have aQ:ae [] wK wT:=by rw [aH];exact(ae.refl [] wK).drew
  have HST:=zh (HST.out.kept aQ);have iP:=zh (iP.out.kept aQ);clear aQ;have x6 : wT.cell? ⟨be,6,none⟩=_:=(HX.out.kept HST.out.aV (by simpa using vL)).cell 6 _ rfl;have x7 : wT.cell? ⟨be,7,none⟩=_:=(HX.out.kept HST.out.aV (by simpa using vL)).cell 7 _ rfl;have x8 : wT.cell? ⟨be,8,none⟩=_:=(HX.out.kept HST.out.aV (by simpa using vL)).cell 8 _ rfl;have hown : (wT.alloc (.cells #[.pointer ou,.pointer ov] 166)).ownsRow 0 166 1 (.slice (some ⟨wT.heap.size,0,none⟩) 2 2) 2 [.pointer ou,.pointer ov]:=⟨rfl,.inr ⟨wT.heap.size,2,#[.pointer ou,.pointer ov],rfl,Nat.zero_le _,heap_alloc_new wT _,Nat.le_refl _,by unfold maxLen;omega,rfl,rfl⟩⟩;have HOWN:=zh hown;have aO:ae [] wT (wT.alloc (.cells #[.pointer ou,.pointer ov] 166)):=(ae.refl _ _).alloc _;have Ka:=zh (show At (wT.alloc (.cells #[.pointer ou,.pointer ov] 166)) a vs from((HAT.out.kept HST.out.aV (fun x hx hF=>by simp at hx;subst hx;exact lZ _ hF rfl)).kept aO (by simp)).at_);have nR:=zh (show ∀ x∈vs,x.oneCell'=true from fun x hx=>tQ.out.one x (by simp [hx]));obtain⟨US,hUS⟩ : ∃ U,U=[.pointer ou,.pointer ov] ++ vs:=⟨_,rfl⟩
  have Zy:US.length=2 + vs.length:=by rw [hUS];simp;omega
  have HKU:=zh (show zT w0 bF bL bE g US os by rw [hUS];exact tQ.out);have Df:=zh hUS;have hbe : be≠wT.heap.size:=by have:=(HX.out.kept HST.out.aV (by simpa using vL)).lt;omega
  have Kb:=aO.aF x8 (by simp);have hsT : w0.heap.size≤wT.heap.size:=HST.out.aV.size;clear hown aO hUS;refine kX [] rfl (by kernel_rfl) ?_;rw [← aH];clear aH;have hS:ae [] wT wT:=ae.refl _ _
  repeat ((with_reducible refine gX ?_);(first|refine aL ?_|refine sK ?_|refine sM fun _ _=>?_|refine sL fun _ _=>?_|refine sE fun _ _=>?_);go_wp2_with fail)
  refine And.intro (hS.alloc _) ?_;have hS1:ae [] wT (wT.alloc (.cells #[.pointer ou,.pointer ov] 166)):=hS.alloc _
  repeat ((with_reducible refine gX ?_);(first|refine aL ?_|refine sK ?_|refine sM fun _ _=>?_|refine sL fun _ _=>?_|refine sE fun _ _=>?_);go_wp2_with fail)
  refine JM _ _ 190 rfl rfl rfl 166 (.pointer none) 1 8 Gh Tryz.underlying190 rfl (by decide) (.slice (some ⟨wT.heap.size,0,none⟩) 2 2) 2 [.pointer ou,.pointer ov] rfl HOWN.out a vs.length kk vs rfl (by simp) Ka.out nR.out (by omega) (by unfold maxLen;omega) ?_;intro v2 w2 ho2 hc2 hm2;have hS:ae [] wT w2:=((ae.refl [] wT).alloc _).trans hc2 (fun x hx=>.inr (by simp [blk] at hx;omega));rw [← Df.out] at ho2;obtain⟨ra,rc,rfl,hrc,hrow⟩:=Row.jU ho2 (F:=fun b=>wT.heap.size≤b) (fun b hb=>by
   rcases hm2 b hb with h|h
   ·simp [blk] at h;omega
   ·simp at h;omega)
  have fH:=zh hrow;have Gn:=zh (show ∀ x∈bL :: blk og,¬ wT.heap.size≤x from fun x hx=>by
   rcases List.mem_cons.1 hx with rfl|hx
   ·omega
   ·have:=qC HST.out.own x hx;omega)
  have HST:=zh (HST.out.kept hS);have iP:=zh (iP.out.kept hS);clear ho2 hc2 hrow x6 x7 x8 Kb hbe hm2;refine And.intro hS ?_;clear hS1
  repeat ((with_reducible refine gX ?_);(first|refine aL ?_|refine sK ?_|refine sM fun _ _=>?_|refine sL fun _ _=>?_|refine sE fun _ _=>?_);go_wp2_with fail)
  clear hS
  go_loopw [6,50] (fun _ i wr=>∃ (k:Nat) (rT:List Value) (os2:List (Option E)) (ky:Value) (l2:List (List UInt8)),i = .int .i64 k∧US.drop k=rT∧k≤US.length∧zT w0 bF bL bE g rT os2∧qx w0 bL ky wr l2∧mH bL og w2 ky wr∧os2.foldl (fun l o=>jd g o l) l2=tgt∧l2.length + (os2.map iT).sum≤1000) (fun _ i _=>US.length - (intOf i).toNat)
  case atStart=>exact⟨0,US,os,og,_,rfl,rfl,Nat.zero_le _,HKU.out,HST.out,mH.refl _ _ _,eT.out.symm,kY.out⟩
  case round=>
   obtain⟨k,rT,os2,ky,l2,rfl,hdr,hkl,hks,hst,hmv,htot,hl2⟩:=hrel;have HS2:=zh hst;have bC:=zh hmv;have oQ:=zh htot;have HL2:=zh hl2;clear hst hmv htot hl2;by_cases hlt : k < 2 + vs.length
   ·obtain⟨x,hx⟩ : ∃ x,US[k]?=some x:=⟨US[k]'(by omega),List.getElem?_eq_getElem (by omega)⟩
    have hd2 : rT=x :: US.drop (k + 1):=by
     rw [← hdr,List.drop_eq_getElem_cons (by omega)]
     congr 1
     rw [List.getElem?_eq_getElem (by omega)] at hx;exact Option.some.inj hx
    rw [hd2] at hks;obtain⟨o,os3,rfl,j5,hks⟩:=hks;obtain⟨rb,ro,rfl,hcell⟩:=(fH.out.kept bC.out.aV Gn.out).at_ (by omega);have d0:=hcell k x hx;have e0:=(HB.out.e.kept HS2.out.aV (by simpa using HB.out.ne)).cell 0 _ rfl;have Ux:=zh hks;clear hdr hd2 hks hcell hx;cases o with
    | none=>
     have hk0 : x=aI:=j5;subst hk0;go_wp2_with fail;refine(Um bF bL bE wr).mono ?_;rintro _ _ ⟨rfl,hw⟩;have hw:=hw.symm;subst hw;go_wp2_with fail;refine⟨⟨k + 1,_,os3,ky,l2,by go_num,rfl,by omega,Ux.out,HS2.out,bC.out,oQ.out,by have:=HL2.out;simp only [List.map_cons,List.sum_cons] at this;omega⟩,by simp [intOf];omega⟩
    | some y=>
     obtain⟨b,rfl,hcall⟩:=j5;have HY:=zh (show (dn g y l2).length + (os3.map iT).sum≤1000 from by have:=HL2.out;simp only [List.map_cons,List.sum_cons,iT] at this;have:=sj g y l2;omega);have mf:=zh (hcall wr ky l2 HS2.out (by have:=HL2.out;simp only [List.map_cons,List.sum_cons,iT] at this;omega));clear hcall;go_wp2_with fail;refine mf.out.mono ?_;rintro _ w4 ⟨rfl,MI,hs4,iL⟩;have nX:=zh hs4;have xw:=zh (bC.out.trans iL);clear hs4 iL d0 e0;go_wp2_with fail;refine⟨⟨k + 1,_,os3,MI,dn g y l2,by go_num,rfl,by omega,Ux.out,nX.out,xw.out,oQ.out,HY.out⟩,by simp [intOf];omega⟩
   ·have hde : rT=[]:=by rw [← hdr];exact List.drop_eq_nil_of_le (by omega)
    rw [hde] at hks;have hrs : os2=[]:=hks;have oQ:=zh (show l2=tgt by rw [← oQ.out,hrs];rfl);clear hdr hde hks hrs;go_wp2_with fail;refine bodyPost_end (results_none rfl _ _ _) rfl ?_;rw [← oQ.out];exact⟨rfl,ky,HS2.out,iP.out.trans bC.out⟩
end Go.Proofs.YtechofppmnnomaaGreatDoor
namespace Go.Proofs.YtechofppmnnomaaGreatDoor
open Go Go.RowKit Go.Mq Go.Mq.Tree Go.Mq.Used
open Go.Mq.Check (bK dx)
set_option maxRecDepth 100000
set_option maxHeartbeats 1000000
def vM (w0:World) (bF bL bE:Nat) (g:List UInt8) (F:Nat→Prop) (e:E):Prop:=
 (∀ u,aY w0 F e [u]→EB w0 bF bL bE g u (some e)) ∧
 ∀ us,aY w0 F e us → ∃ os:List (Option E),zT w0 bF bL bE g us os∧(∀ l,os.foldl (fun l o=>jd g o l) l=dn g e l)∧(os.map iT).sum=eU e∧us.length=dx e
section
variable {w0:World} {bF bL bE:Nat} {g:List UInt8} {F:Nat→Prop}
theorem vM.one {e:E} (hx : e.oI) (h : ∀ u,aY w0 F e [u]→EB w0 bF bL bE g u (some e)):vM w0 bF bL bE g F e:=by
 refine⟨h,fun us he=>?_⟩;have Kc : ∃ u,us=[u]:=by
  cases e with
  | num p n=>obtain⟨b,hb,_⟩:=he;exact⟨_,hb⟩
  | var p m n=>obtain⟨b,hb,_⟩:=he;exact⟨_,hb⟩
  | item p m n i=>obtain⟨b,_,hb,_⟩:=he;exact⟨_,hb⟩
  | un p op x=>obtain⟨b,_,hb,_⟩:=he;exact⟨_,hb⟩
  | bin p op x y=>obtain⟨b,_,_,hb,_⟩:=he;exact⟨_,hb⟩
  | app p m n l=>obtain⟨b,_,_,_,hb,_⟩:=he;exact⟨_,hb⟩
  | nil=>exact hx.elim
  | cons _ _=>exact hx.elim
 obtain⟨u,rfl⟩:=Kc;refine⟨[some e],⟨_,_,rfl,h u he,rfl⟩,fun l=>rfl,by simp [iT],?_⟩;cases e <;> first|rfl|exact hx.elim
theorem xV:EB w0 bF bL bE g aI none:=rfl
theorem IB {e:E} {u:Value} (h:EB w0 bF bL bE g u (some e)) : ∃ b,u = .pointer (some ⟨b,0,none⟩):=by
 obtain⟨b,hb,_⟩:=h;exact⟨b,hb⟩
theorem Uy (hB:UB w0 bF bL bE g) (lZ : ∀ x,F x→x≠bL) (e:E):bK e→vM w0 bF bL bE g F e:=by
 induction e with
 | num p n=>
  refine fun _=>vM.one trivial fun u he=>?_
  obtain⟨b,hb,hF,hblk⟩:=he;cases hb
  refine⟨b,rfl,fun w lv l hst hl=>?_⟩;have ht : touch g [] [] l=l:=EA fun h=>h.2.1 h.1.symm
  have:=BJ g w0 bF bL bE hB F lZ b _ _ _ _ none none [] [] none 0 [] [none,none] hblk hF (Row.nil _ _ _) (by simp) ⟨_,_,rfl,xV,_,_,rfl,xV,rfl⟩ w lv l hst (by rw [ht];simp [iT,eU] at hl ⊢;omega);rw [ht] at this;exact this
 | var p m n=>
  refine fun _=>vM.one trivial fun u he=>?_
  obtain⟨b,hb,hF,hblk⟩:=he;cases hb
  refine⟨b,rfl,fun w lv l hst hl=>?_⟩;exact BJ g w0 bF bL bE hB F lZ b _ _ _ _ none none m n none 0 [] [none,none] hblk hF (Row.nil _ _ _) (by simp) ⟨_,_,rfl,xV,_,_,rfl,xV,rfl⟩ w lv l hst (by have:=Bo g m n l;simp [iT,eU] at hl ⊢;omega)
 | item p m n i ih=>
  refine fun hf=>vM.one trivial fun u he=>?_
  obtain⟨b,v,hb,hF,hblk,hi⟩:=he;cases hb
  have j5:=(ih hf).1 v hi;obtain⟨bi,rfl⟩:=IB j5;refine⟨b,rfl,fun w lv l hst hl=>?_⟩;exact BJ g w0 bF bL bE hB F lZ b _ _ _ _ (some ⟨bi,0,none⟩) none m n none 0 [] [some i,none] hblk hF (Row.nil _ _ _) (by simp) ⟨_,_,rfl,j5,_,_,rfl,xV,rfl⟩ w lv l hst (by have:=Bo g m n l;simp [iT,eU] at hl ⊢;omega)
 | un p op x ih=>
  refine fun hf=>vM.one trivial fun u he=>?_
  obtain⟨b,v,hb,hF,hblk,hi⟩:=he;cases hb
  have j5:=(ih hf).1 v hi;obtain⟨bi,rfl⟩:=IB j5;refine⟨b,rfl,fun w lv l hst hl=>?_⟩;have ht : touch g [] [] l=l:=EA fun h=>h.2.1 h.1.symm
  have:=BJ g w0 bF bL bE hB F lZ b _ _ _ _ (some ⟨bi,0,none⟩) none [] [] none 0 [] [some x,none] hblk hF (Row.nil _ _ _) (by simp) ⟨_,_,rfl,j5,_,_,rfl,xV,rfl⟩ w lv l hst (by rw [ht];simp [iT,eU] at hl ⊢;omega);rw [ht] at this;exact this
 | bin p op x y ih1 ih2=>
  refine fun hf=>vM.one trivial fun u he=>?_
  obtain⟨b,v,v2,hb,hF,hblk,hi,hj⟩:=he;cases hb
  have j5:=(ih1 hf.1).1 v hi;have Gl:=(ih2 hf.2).1 v2 hj;obtain⟨bi,rfl⟩:=IB j5;obtain⟨bj,rfl⟩:=IB Gl;refine⟨b,rfl,fun w lv l hst hl=>?_⟩;have ht : touch g [] [] l=l:=EA fun h=>h.2.1 h.1.symm
  have:=BJ g w0 bF bL bE hB F lZ b _ _ _ _ (some ⟨bi,0,none⟩) (some ⟨bj,0,none⟩) [] [] none 0 [] [some x,some y] hblk hF (Row.nil _ _ _) (by simp) ⟨_,_,rfl,j5,_,_,rfl,Gl,rfl⟩ w lv l hst (by rw [ht];simp [iT,eU] at hl ⊢;omega);rw [ht] at this;exact this
 | app p m n a ih=>
  refine fun hf=>vM.one trivial fun u he=>?_
  obtain⟨b,ad,k,vs,hb,hF,hblk,_,hrow,hl0⟩:=he;cases hb
  obtain⟨os,hks,EC,hcnt,hlen⟩:=(ih hf.2).2 vs hl0;have hfa:=hf.1;refine⟨b,rfl,fun w lv l hst hl=>?_⟩;have:=BJ g w0 bF bL bE hB F lZ b _ _ _ _ none none m n ad k vs (none :: none :: os) hblk hF hrow (by omega) ⟨_,_,rfl,xV,_,_,rfl,xV,hks⟩ w lv l hst (by have:=Bo g m n l;simp only [List.map_cons,List.sum_cons,iT,eU,hcnt] at hl ⊢;omega);rw [List.foldl_cons,List.foldl_cons,EC] at this;exact this
 | nil=>exact fun _=>⟨fun u he=>(by cases (show [u]=[] from he)),fun us he=>⟨[],by rw [show us=[] from he];rfl,fun l=>rfl,rfl,by rw [show us=[] from he];rfl⟩⟩
 | cons x r ih1 ih2=>
  refine fun hf=>⟨fun u he=>?_,fun us he=>?_⟩
  ·obtain⟨v,vs,hv,h1,h2⟩:=he
   simp only [List.cons.injEq] at hv;obtain⟨rfl,rfl⟩:=hv;obtain⟨os,hks,EC,hcnt,_⟩:=(ih2 hf.2).2 [] h2;have hrs : os=[]:=hks;subst hrs;obtain⟨b,hb,hcall⟩:=(ih1 hf.1).1 u h1;refine⟨b,hb,fun w lv l hst hl=>?_⟩;rw [dn,← EC];exact hcall w lv l hst (by simp only [eU] at hl;omega)
  ·obtain⟨v,vs,rfl,h1,h2⟩:=he
   obtain⟨os,hks,EC,hcnt,hlen⟩:=(ih2 hf.2).2 vs h2;exact⟨some x :: os,⟨_,_,rfl,(ih1 hf.1).1 v h1,hks⟩,fun l=>by rw [List.foldl_cons,EC];rfl,by simp [iT,eU,hcnt],by simp [dx,hlen]⟩
end
end Go.Proofs.YtechofppmnnomaaGreatDoor
namespace Go.Mq.Used
open Go Go.RowKit Go.Mq Go.Mq.Tree
open Go.Mq.Check (bK bZ dx)
def ek:S→Nat
 | .nil=>1
 | .set _ _ _ _ r=>ek r + 1
 | .ifs _ _ t e r=>ek t + ek e + ek r + 1
 | .dB _ _ t r=>ek t + ek r + 1
 | .ret _ _ r=>ek r + 1
 | .dD _ _ r=>ek r + 1
 | .call _ _ r=>ek r + 1
theorem il (s:S) : 1≤ek s:=by cases s <;> simp [ek]
theorem ad' {w:World} {b:Nat} (v0 v1 v2 v3 v4 v5 v6:Value) {u0 u1 u2 u3 u4 u5 u6:Value} {t:TypeId} (h:ag w b #[u0,u1,u2,u3,u4,u5,u6] t) : ∃ wF,(((((((w.setCell ⟨b,0,none⟩ v0).setCell ⟨b,1,none⟩ v1).setCell ⟨b,2,none⟩ v2).setCell ⟨b,3,none⟩ v3).setCell ⟨b,4,none⟩ v4).setCell ⟨b,5,none⟩ v5).setCell ⟨b,6,none⟩ v6)=wF∧ae [b] w wF∧ag wF b #[v0,v1,v2,v3,v4,v5,v6] t:=
 ⟨_,rfl,((((((ae.set1 _ _ _ _).then (ae.set1 _ _ _ _)).then (ae.set1 _ _ _ _)).then (ae.set1 _ _ _ _)).then (ae.set1 _ _ _ _)).then (ae.set1 _ _ _ _)).then (ae.set1 _ _ _ _),by
  have:=((((((h.set 0 v0).set 1 v1).set 2 v2).set 3 v3).set 4 v4).set 5 v5).set 6 v6
  simpa using this⟩
theorem aea {w:World} {F:Nat→Prop} {a:Option Addr} {cs1 cs':List Value} {c0 c1 c2 c3 c4 c5 c6:Value} {k:Nat} (h:Row w F a (cs1 ++ c0 :: c1 :: c2 :: c3 :: c4 :: c5 :: c6 :: cs')) (hl : cs1.length=k * 7) :
  ∃ bb off,a=some ⟨bb,off,none⟩∧w.cell? ⟨bb,off + k * 7,none⟩=some c0∧w.cell? ⟨bb,off + k * 7 + 1,none⟩=some c1∧w.cell? ⟨bb,off + k * 7 + 2,none⟩=some c2∧w.cell? ⟨bb,off + k * 7 + 3,none⟩=some c3∧w.cell? ⟨bb,off + k * 7 + 4,none⟩=some c4∧w.cell? ⟨bb,off + k * 7 + 5,none⟩=some c5∧w.cell? ⟨bb,off + k * 7 + 6,none⟩=some c6:=by
 obtain⟨bb,off,rfl,hc⟩:=h.at_ (by simp only [List.length_append,List.length_cons];omega);have g : ∀ i v,(c0 :: c1 :: c2 :: c3 :: c4 :: c5 :: c6 :: cs')[i]?=some v→w.cell? ⟨bb,off + k * 7 + i,none⟩=some v:=fun i v hv=>by
  rw [Nat.add_assoc];refine hc (k * 7 + i) v ?_;rw [← hl,List.getElem?_append_right (by omega),Nat.add_sub_cancel_left];exact hv
 exact⟨bb,off,rfl,by simpa using g 0 _ rfl,g 1 _ rfl,g 2 _ rfl,g 3 _ rfl,g 4 _ rfl,g 5 _ rfl,g 6 _ rfl⟩
structure aeb (w:World) (F:Nat→Prop) (s:S) (cs:List Value) (oi:Option E) (v:E) (st se r:S) (c0 c1:Int) (nm:List UInt8) (ui uv:Value) (a1:Option Addr) (k1:Nat) (a2:Option Addr) (k2:Nat) (cs':List Value):Prop where
 cells : cs = .int .i64 c0 :: .int .i64 c1 :: str nm :: ui :: uv :: .slice a1 st.len k1 :: .slice a2 se.len k2 :: cs'
 index:oF w F oi ui
 value:aY w F v [uv]
 aec:fQ w F st (.slice a1 st.len k1)
 aed:fQ w F se (.slice a2 se.len k2)
 rest:dI w F r cs'
 use : ∀ g l,dA g s l=dA g r (dA g se (dA g st (dn g v (jd g oi l))))
 cnt : dC s=iT oi + eU v + dC st + dC se + dC r
 len : s.len=r.len + 1
 s1 : ek st < ek s
 s2 : ek se < ek s
 s3 : ek r < ek s
 few:bZ s→(∀ x,oi=some x→bK x)∧bK v∧(bZ st∧st.len≤1000)∧(bZ se∧se.len≤1000)∧bZ r
theorem vN (w:World) (F:Nat→Prop):fQ w F .nil (.slice none S.nil.len 0):=⟨none,0,[],rfl,Nat.le_refl _,Row.nil _ _ _,rfl⟩
theorem aee {w:World} {F:Nat→Prop} {s:S} {cs:List Value} (h:dI w F s cs) (hn : s ≠ .nil) : ∃ oi v st se r c0 c1 nm ui uv a1 k1 a2 k2 cs',aeb w F s cs oi v st se r c0 c1 nm ui uv a1 k1 a2 k2 cs':=by
 cases s with
 | nil=>exact absurd rfl hn
 | set p n i v r=>
  obtain⟨ui,uv,cs',rfl,h2,h3,h4⟩:=h;exact⟨i,v,.nil,.nil,r,1,p,n,ui,uv,none,0,none,0,cs',rfl,h2,h3,vN _ _,vN _ _,h4,fun _ _=>rfl,by simp [dC],rfl,by have:=il r;simp only [ek];omega,by have:=il r;simp only [ek];omega,by have:=il r;simp only [ek];omega,fun hf=>⟨hf.1,hf.2.1,⟨trivial,by simp [S.len]⟩,⟨trivial,by simp [S.len]⟩,hf.2.2⟩⟩
 | ifs p v t e r=>
  obtain⟨uv,a1,c1,ts,a2,c2,es,cs',rfl,h2,h3,h4,h5,h6,h7,h8,h9⟩:=h;exact⟨none,v,t,e,r,2,p,[],aI,uv,a1,c1,a2,c2,cs',rfl,rfl,h2,⟨_,_,_,rfl,h3,h4,h5⟩,⟨_,_,_,rfl,h6,h7,h8⟩,h9,fun _ _=>rfl,by simp [dC,iT],rfl,by have:=il r;have:=il t;have:=il e;simp only [ek];omega,by have:=il r;have:=il t;have:=il e;simp only [ek];omega,by have:=il r;have:=il t;have:=il e;simp only [ek];omega,fun hf=>⟨fun x hx=>(by cases hx),hf.1,⟨hf.2.1,hf.2.2.1⟩,⟨hf.2.2.2.1,hf.2.2.2.2.1⟩,hf.2.2.2.2.2⟩⟩
 | dB p v t r=>
  obtain⟨uv,a1,c1,ts,cs',rfl,h2,h3,h4,h5,h6⟩:=h;exact⟨none,v,t,.nil,r,3,p,[],aI,uv,a1,c1,none,0,cs',rfl,rfl,h2,⟨_,_,_,rfl,h3,h4,h5⟩,vN _ _,h6,fun _ _=>rfl,by simp [dC,iT],rfl,by have:=il r;have:=il t;simp only [ek];omega,by have:=il r;have:=il t;simp only [ek];omega,by have:=il r;have:=il t;simp only [ek];omega,fun hf=>⟨fun x hx=>(by cases hx),hf.1,⟨hf.2.1,hf.2.2.1⟩,⟨trivial,by simp [S.len]⟩,hf.2.2.2⟩⟩
 | ret p v r=>
  obtain⟨uv,cs',rfl,h2,h3⟩:=h;exact⟨none,v,.nil,.nil,r,4,p,[],aI,uv,none,0,none,0,cs',rfl,rfl,h2,vN _ _,vN _ _,h3,fun _ _=>rfl,by simp [dC,iT],rfl,by have:=il r;simp only [ek];omega,by have:=il r;simp only [ek];omega,by have:=il r;simp only [ek];omega,fun hf=>⟨fun x hx=>(by cases hx),hf.1,⟨trivial,by simp [S.len]⟩,⟨trivial,by simp [S.len]⟩,hf.2⟩⟩
 | dD p v r=>
  obtain⟨uv,cs',rfl,h2,h3⟩:=h;exact⟨none,v,.nil,.nil,r,5,p,[],aI,uv,none,0,none,0,cs',rfl,rfl,h2,vN _ _,vN _ _,h3,fun _ _=>rfl,by simp [dC,iT],rfl,by have:=il r;simp only [ek];omega,by have:=il r;simp only [ek];omega,by have:=il r;simp only [ek];omega,fun hf=>⟨fun x hx=>(by cases hx),hf.1,⟨trivial,by simp [S.len]⟩,⟨trivial,by simp [S.len]⟩,hf.2⟩⟩
 | call p v r=>
  obtain⟨uv,cs',rfl,h2,h3⟩:=h;exact⟨none,v,.nil,.nil,r,6,p,[],aI,uv,none,0,none,0,cs',rfl,rfl,h2,vN _ _,vN _ _,h3,fun _ _=>rfl,by simp [dC,iT],rfl,by have:=il r;simp only [ek];omega,by have:=il r;simp only [ek];omega,by have:=il r;simp only [ek];omega,fun hf=>⟨fun x hx=>(by cases hx),hf.1,⟨trivial,by simp [S.len]⟩,⟨trivial,by simp [S.len]⟩,hf.2⟩⟩
theorem len_nil {s:S} (h : s.len=0) : s = .nil:=by
 cases s <;> first|rfl|(simp [S.len] at h)
end Go.Mq.Used
namespace Go.Proofs.YtechofppmnnomaaGreatDoor
open Go Go.RowKit Go.Mq Go.Mq.Tree Go.Mq.Used
open Go.Mq.Check (bK bZ dx)
set_option maxRecDepth 100000
set_option maxHeartbeats 4000000
theorem aef {w0:World} {bF bL bE:Nat} {g:List UInt8} {F:Nat→Prop} (hB:UB w0 bF bL bE g) (lZ : ∀ x,F x→x≠bL) {oi:Option E} {u:Value} (h:oF w0 F oi u) (hf : ∀ x,oi=some x→bK x) (w:World) (lv:Value) (l:List (List UInt8)) (hst:qx w0 bL lv w l) (hl : l.length + iT oi≤1000) :
  ∃ ou,u = .pointer ou∧Calls Tryz.prog 93 #[.pointer ou,ptr bF,ptr bL,ptr bE] w (Iy w0 bL lv w (jd g oi l)):=by
 cases oi with
 | none=>
  have hu : u=aI:=h;subst hu;refine⟨none,rfl,(Um bF bL bE w).mono ?_⟩;rintro _ _ ⟨rfl,rfl⟩;exact⟨rfl,lv,hst,mH.refl _ _ _⟩
 | some x=>
  obtain⟨b,rfl,hc⟩:=(Uy hB lZ x (hf x rfl)).1 u h;exact⟨_,rfl,hc w lv l hst hl⟩
theorem aeg {w0:World} {bF bL bE bB:Nat} {g:List UInt8} {F:Nat→Prop} (hB:UB w0 bF bL bE g) (lZ : ∀ x,F x→x≠bL) (aiQ : ∀ x,F x→x < w0.heap.size) (hbb:ag w0 bB #[.func (.func 94) #[] #[ptr bE,ptr bB]] 158) (hbL : bB≠bL) :
  ∀ (z:Nat) (s:S),ek s≤z→bZ s→s.len≤1000 → ∀ v,fQ w0 F s v → ∀ w lv l,qx w0 bL lv w l→l.length + dC s≤1000→Calls Tryz.prog 94 #[v,ptr bE,ptr bB] w (Iy w0 bL lv w (dA g s l)):=by
 intro z
 induction z with
 | zero=>intro s hz;have:=il s;omega
 | succ z ih=>
  intro s hz dJ hlen v hv w lv l hst hln;obtain⟨a,c,cs,rfl,hac,hrow,Uz⟩:=hv;have HB:=zh hB;have qf:=zh hbb;have fH:=zh hrow;have HST:=zh hst;have IH:=zh ih;have uu:=zh lZ;have aeh:=zh Uz;have qa:=zh dJ;have ad6:=hB.lt;obtain⟨tgt,fA⟩ : ∃ t,t=dA g s l:=⟨_,rfl⟩
  rw [← fA];have eT:=zh fA;clear hB hbb hrow hst ih Uz fA lZ dJ
  go_enter Tryz.func94,Tryz.ntmps94
  go_wp2_with fail
  go_loopw [5,8] (fun _ i wr=>∃ (k:Nat) (r:S) (cs1 cs':List Value) (ky:Value) (l2:List (List UInt8)),i = .int .i64 k∧cs=cs1 ++ cs'∧cs1.length=k * 7∧dI w0 F r cs'∧k + r.len=s.len∧ek r≤ek s∧bZ r∧qx w0 bL ky wr l2∧mH bL lv w ky wr∧dA g r l2=tgt∧l2.length + dC r≤1000) (fun _ i _=>s.len - (intOf i).toNat)
  case atStart=>exact⟨0,s,[],cs,lv,l,rfl,rfl,rfl,aeh.out,by omega,Nat.le_refl _,qa.out,HST.out,mH.refl _ _ _,eT.out.symm,hln⟩
  case round=>
   obtain⟨k,r,cs1,cs',ky,l2,rfl,hcs,MJ,MK,hkr,UA,hfr,ML,MM,htot,hl2⟩:=hrel;have HS2:=zh ML;have bC:=zh MM;have oQ:=zh htot;by_cases hlt : k < s.len
   ·have hrn : r ≠ .nil:=fun h=>by rw [h] at hkr;simp [S.len] at hkr;omega
    obtain⟨oi,ev,st,se,r2,c0,c1,nm,ui,uv,a1,k1,a2,k2,cs2,hvw⟩:=aee MK hrn;have MN:=zh hvw;have hcells:=hvw.cells;rw [hcells] at hcs;rw [hcs] at fH;obtain⟨bb,off,rfl,d0,d1,d2,d3,d4,d5,d6⟩:=aea (fH.out.kept HS2.out.aV (fun x hx hF=>by simp at hx;subst hx;exact uu.out _ hF rfl)) MJ;have hfw:=hvw.few hfr;have hcnt:=hvw.cnt;have HHD:=zh (show r.len=r2.len + 1 from hvw.len);have HZ:=zh (show ek st≤z∧ek se≤z∧ek r2≤ek s from by have h1:=hvw.s1;have h2:=hvw.s2;have h3:=hvw.s3;omega);have ED:=zh hfw;have hz:=ag.new wr #[.int .i64 0,.int .i64 0,str [],aI,aI,ah,ah] 168;obtain⟨wA,ay⟩ : ∃ w',wr.alloc (.cells #[.int .i64 0,.int .i64 0,str [],aI,aI,ah,ah] 168)=w':=⟨_,rfl⟩
    rw [ay] at hz;have hcA:ae [] wr wA:=by rw [← ay];exact(ae.refl _ _).alloc _
    obtain⟨wF,hwF,aZ,aG⟩:=ad' (.int .i64 c0) (.int .i64 c1) (str nm) ui uv (.slice a1 st.len k1) (.slice a2 se.len k2) hz;have hcw:ae [] wr wF:=hcA.trans aZ (fun x hx=>.inr (by simp at hx;omega));have z0:=hz.cell 0 _ rfl;have z1:=hz.cell 1 _ rfl;have z2:=hz.cell 2 _ rfl;have z3:=hz.cell 3 _ rfl;have z4:=hz.cell 4 _ rfl;have z5:=hz.cell 5 _ rfl;have z6:=hz.cell 6 _ rfl;have y0:=hz.frozen 0;have y1:=hz.frozen 1;have y2:=hz.frozen 2;have y3:=hz.frozen 3;have y4:=hz.frozen 4;have y5:=hz.frozen 5;have y6:=hz.frozen 6;have EE:=zh (HS2.out.kept hcw);have MO:=zh (bC.out.kept hcw);have pV:=zh aG;have oP:=zh (show wr.heap.size∉bL :: blk ky from fun hm=>by
     rcases List.mem_cons.1 hm with h|h
     ·have:=HS2.out.aV.size;omega
     ·have:=qC HS2.out.own _ h;omega)
    have hl3 : l2.length + iT oi≤1000:=by omega
    have AA : (jd g oi l2).length + eU ev≤1000:=by have:=Ed g oi l2;omega
    have UC : (dn g ev (jd g oi l2)).length + dC st≤1000:=by have:=Ed g oi l2;have:=sj g ev (jd g oi l2);omega
    have UD : (dA g st (dn g ev (jd g oi l2))).length + dC se≤1000:=by have:=Ed g oi l2;have:=sj g ev (jd g oi l2);have:=zB g st (dn g ev (jd g oi l2));omega
    have aej:=zh (show (dA g se (dA g st (dn g ev (jd g oi l2)))).length + dC r2≤1000 by have:=Ed g oi l2;have:=sj g ev (jd g oi l2);have:=zB g st (dn g ev (jd g oi l2));have:=zB g se (dA g st (dn g ev (jd g oi l2)));omega);have aek:=zh (hvw.use g l2);obtain⟨oui,hoe,hc1⟩:=aef HB.out uu.out hvw.index hfw.1 wF ky l2 EE.out hl3;subst hoe;obtain⟨ob,hbe,hcv⟩:=(Uy HB.out uu.out ev hfw.2.1).1 uv hvw.value;subst hbe;have cB:=zh hc1;have fM:=zh hcv;have kY:=zh AA;have aem:=zh UC;have aen:=zh UD;have jw:=zh hcs;have e0:=(HB.out.e.kept EE.out.aV (by simpa using HB.out.ne)).cell 0 _ rfl;have x3 : wF.cell? ⟨wr.heap.size,3,none⟩=_:=pV.out.cell 3 _ rfl;clear hz hcA aZ aG hcw hc1 hcv AA UC UD hvw hfw hcells MK UA hfr ML MM htot hl2 hl3 hcs hcnt;go_wp2_with fail;clear d0 d1 d2 d3 d4 d5 d6 z0 z1 z2 z3 z4 z5 z6 y0 y1 y2 y3 y4 y5 y6 ay hwF x3 e0;refine cB.out.mono ?_;rintro _ wb ⟨rfl,IC,hs3,kK⟩;have lT:=zh hs3;have nT:=zh kK;have x4:=(pV.out.kept nT.out.aV oP.out).cell 4 _ rfl;have e0:=(HB.out.e.kept lT.out.aV (by simpa using HB.out.ne)).cell 0 _ rfl;have aD:=zh (fM.out wb IC (jd g oi l2) lT.out kY.out);clear hs3 kK;go_wp2_with fail;clear x4 e0;refine aD.out.mono ?_;rintro _ wc ⟨rfl,MI,hs4,iL⟩;have nX:=zh hs4;have xw:=zh (nT.out.trans iL);have x5:=(pV.out.kept xw.out.aV oP.out).cell 5 _ rfl;have b0:=(qf.out.kept nX.out.aV (by simpa using hbL)).cell 0 _ rfl;have bz:=zh (IH.out st HZ.out.1 ED.out.2.2.1.1 ED.out.2.2.1.2 _ MN.out.aec wc MI _ nX.out aem.out);clear hs4 iL;go_wp2_with fail;clear x5 b0;refine bz.out.mono ?_;rintro _ wd ⟨rfl,lv5,hs5,rY⟩;have pE:=zh hs5;have qW:=zh (xw.out.trans rY);have x6:=(pV.out.kept qW.out.aV oP.out).cell 6 _ rfl;have b0:=(qf.out.kept pE.out.aV (by simpa using hbL)).cell 0 _ rfl;have cu:=zh (IH.out se HZ.out.2.1 ED.out.2.2.2.1.1 ED.out.2.2.2.1.2 _ MN.out.aed wd lv5 _ pE.out aen.out);clear hs5 rY;go_wp2_with fail;clear x6 b0;refine cu.out.mono ?_;rintro _ we ⟨rfl,lv6,hs6,xJ⟩;have BH:=zh hs6;have Eb:=zh (MO.out.trans (qW.out.trans xJ));clear hs6 xJ;go_wp2_with fail;refine⟨⟨k + 1,r2,cs1 ++ [.int .i64 c0,.int .i64 c1,str nm,.pointer oui,.pointer (some ⟨ob,0,none⟩),.slice a1 st.len k1,.slice a2 se.len k2],cs2,lv6,_,by go_num,by rw [jw.out];simp,by simp [MJ];omega,MN.out.rest,by have:=HHD.out;omega,HZ.out.2.2,ED.out.2.2.2.2,BH.out,Eb.out,?_,aej.out⟩,by simp [intOf];omega⟩;rw [← oQ.out,aek.out]
   ·have hrn : r = .nil:=len_nil (by omega)
    have HR:=zh (show l2=tgt by rw [← oQ.out,hrn];rfl);clear hcs MJ MK hkr UA hfr ML MM htot hl2 hrn;go_wp2_with fail;refine bodyPost_end (results_none rfl _ _ _) rfl ?_;rw [← HR.out];exact⟨rfl,ky,HS2.out,bC.out⟩
end Go.Proofs.YtechofppmnnomaaGreatDoor
