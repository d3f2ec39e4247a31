/- Some texts in one. -/
import Derived.Deep.DeepCutAuto
import Derived.Test.YtojkkgghndeimaaGreatDoorO9
import Derived.Test.YtojkkgghndeimaaGreatDoorO10
namespace Go.Mq.Ref
open Go Go.RowKit Go.Mq Go.Mq.Tree
def visE {σ:Type} (f:E→σ→σ):E→σ→σ
 | .num p n,s=>f (.num p n) s
 | .var p m n,s=>f (.var p m n) s
 | .item p m n i,s=>visE f i (f (.item p m n i) s)
 | .un p o x,s=>visE f x (f (.un p o x) s)
 | .bin p o x y,s=>visE f y (visE f x (f (.bin p o x y) s))
 | .app p m n l,s=>visE f l (f (.app p m n l) s)
 | .nil,s=>s
 | .cons x r,s=>visE f r (visE f x s)
def visO {σ:Type} (f:E→σ→σ):Option E→σ→σ
 | none,s=>s
 | some x,s=>visE f x s
def visS {σ:Type} (f:E→σ→σ):S→σ→σ
 | .nil,s=>s
 | .set _ _ i v r,s=>visS f r (visE f v (visO f i s))
 | .ifs _ v t e r,s=>visS f r (visS f e (visS f t (visE f v s)))
 | .whil _ v t r,s=>visS f r (visS f t (visE f v s))
 | .ret _ v r,s=>visS f r (visE f v s)
 | .wri _ v r,s=>visS f r (visE f v s)
 | .call _ v r,s=>visS f r (visE f v s)
theorem within_leV (n:Nat) (x:E) (t:List (List UInt8)) : t.length≤(withinK n x t).length:=by unfold withinK; split <;> simp <;> omega
theorem toks_consV (x r:E) : (toks x).length≤(toks (.cons x r)).length∧(toks r).length≤(toks (.cons x r)).length:=by
 cases r <;> simp only [toks,List.length_append,List.length_cons,List.length_nil] <;> omega
theorem len_leV {w:World} {F:Nat→Prop} : ∀ (e:E) (vs:List Value),e.isL→WF e→EAt w F e vs→vs.length≤(toks e).length + 1
 | .nil,vs,_,_,h=>by rw [show vs=[] from h]; simp
 | .cons x r,vs,_,hw,h=>by
  obtain ⟨u,us,rfl,_,h2⟩:=h
  have ih:=len_leV r us hw.2.2 hw.2.1 h2
  cases r with
  | nil=>rw [show us=[] from h2]; simp
  | cons y z=>simp only [toks,List.length_append,List.length_cons] at ih ⊢; omega
  | _=>exact hw.2.2.elim
theorem ptrV {w:World} {F:Nat→Prop} {x:E} {u:Value} (hx : x.isX) (h:EAt w F x [u]) : ∃ p,u = .pointer p:=by
 cases x with
 | num p n=>obtain ⟨b,hb,_⟩:=h; cases hb; exact ⟨_,rfl⟩
 | var p m n=>obtain ⟨b,hb,_⟩:=h; cases hb; exact ⟨_,rfl⟩
 | item p m n i=>obtain ⟨b,_,hb,_⟩:=h; cases hb; exact ⟨_,rfl⟩
 | un p op x=>obtain ⟨b,_,hb,_⟩:=h; cases hb; exact ⟨_,rfl⟩
 | bin p op x y=>obtain ⟨b,_,_,hb,_⟩:=h; cases hb; exact ⟨_,rfl⟩
 | app p m n l=>obtain ⟨b,_,_,_,hb,_⟩:=h; cases hb; exact ⟨_,rfl⟩
 | nil=>exact hx.elim
 | cons _ _=>exact hx.elim
end Go.Mq.Ref
namespace Go.Proofs.YtojkkgghndeimaaGreatDoor
open Go Go.RowKit Go.Mq Go.Mq.Tree Go.Mq.Ref
set_option maxRecDepth 100000
set_option maxHeartbeats 4000000
def Does {σ:Type} (fn:FuncId) (bd:Array Value) (w0:World) (Z:List Nat) (Inv : σ→World→Prop) (u:Value) (g : σ→σ):Prop:=
 ∀ (w:World) (s : σ),Chg Z w0 w→Inv s w→Calls Tryz.prog fn (#[u] ++ bd) w (fun e w'=>e = .returned (.tuple #[])∧Inv (g s) w'∧Chg Z w w')
structure Boxes (w:World) (fn:FuncId) (bd:Array Value) (bf be:Nat):Prop where
 f:Blk w bf #[.func (.func fn) #[] bd] 152
 e:Blk w be #[.func (.func 135) #[] #[ptr bf,ptr be]] 152
theorem Boxes.kept {w w':World} {fn:FuncId} {bd:Array Value} {bf be:Nat} {Z:List Nat} (h:Boxes w fn bd bf be) (hc:Chg Z w w') (h1 : bf∉Z) (h2 : be∉Z):Boxes w' fn bd bf be:=⟨h.f.kept hc h1,h.e.kept hc h2⟩
section
variable {σ:Type} {fn:FuncId} {bd:Array Value} {w0 w1:World} {Z:List Nat} {Inv : σ→World→Prop} {bf be:Nat}
def VK (fn:FuncId) (bd:Array Value) (w0 w1:World) (Z:List Nat) (Inv : σ→World→Prop) (bf be:Nat) (u:Value) (g : σ→σ):Prop:=
 ∀ (w:World) (s : σ),Chg Z w0 w→Chg Z w1 w→Inv s w→Calls Tryz.prog 135 #[u,ptr bf,ptr be] w (fun e w'=>e = .returned (.tuple #[])∧Inv (g s) w'∧Chg Z w w')
theorem vk_nil:VK fn bd w0 w1 Z Inv bf be nilp id:=by
 intro w s _ _ hi
 have HI:=Lib.hid hi
 clear hi
 go_enter Tryz.func135,Tryz.ntmps135
 go_wp2_with fail
 refine bodyPost_ret (v:=.tuple #[]) (results_none rfl _ _ _) rfl ?_
 exact ⟨rfl,HI.out,Chg.refl _ _⟩
theorem vk_node (hF : ∀ (cs:Array Value) (w:World),(callFunc fn cs).run Tryz.prog w = .ok (.enter fn cs) w) (hk : ∀ s w w',Inv s w→Chg [] w w'→Inv s w') (hB:Boxes w1 fn bd bf be) (hbf : bf∉Z) (hbe : be∉Z)
  (b:Nat) (c0 c1 c2 c3 c4 c5:Value) (ou ov:Option Addr) (a:Option Addr) (kk:Nat) (vs:List Value) (F:Nat→Prop) (hZ : ∀ x∈Z,¬ F x) (hb:F b)
  (hx:Blk w0 b #[c0,c1,c2,c3,c4,c5,.pointer ou,.pointer ov,.slice a vs.length kk] 155) (hr:Row w0 F a vs) (hfew : vs.length≤1000000)
  (g : σ→σ) (hg:Does fn bd w0 Z Inv (ptr b) g) (gl gr : σ→σ) (hl:VK fn bd w0 w1 Z Inv bf be (.pointer ou) gl) (hrr:VK fn bd w0 w1 Z Inv bf be (.pointer ov) gr) (gs:List (σ→σ))
  (hs : ∀ (i:Nat) v,vs[i]?=some v → ∃ p gi,v = .pointer p∧gs[i]?=some gi∧VK fn bd w0 w1 Z Inv bf be v gi) (hgl : gs.length=vs.length) :
  VK fn bd w0 w1 Z Inv bf be (ptr b) (fun s=>gs.foldl (fun s f=>f s) (gr (gl (g s)))):=by
 intro w s h0 h1 hi
 have HI:=Lib.hid hi; have H0:=Lib.hid h0; have H1:=Lib.hid h1; have HG:=Lib.hid (hg w s h0 hi); have HL:=Lib.hid hl; have HR:=Lib.hid hrr; have HS:=Lib.hid hs; have HROW:=Lib.hid hr; have HB:=Lib.hid hB; have HX:=Lib.hid hx; have HZ:=Lib.hid hZ; have HK:=Lib.hid hk
 have hbZ : b∉Z:=fun h=>hZ b h hb
 have HCE:=Lib.hid (show ∀ wx,Chg Z w0 wx→Chg Z w1 wx→wx.cell? ⟨bf,0,none⟩=some (.func (.func fn) #[] bd)∧wx.cell? ⟨be,0,none⟩=some (.func (.func 135) #[] #[ptr bf,ptr be])∧wx.cell? ⟨b,6,none⟩=some (.pointer ou)∧wx.cell? ⟨b,7,none⟩=some (.pointer ov)∧wx.cell? ⟨b,8,none⟩=some (.slice a vs.length kk) from fun wx h0 h1=>
  ⟨(hB.f.kept h1 hbf).cell 0 _ rfl,(hB.e.kept h1 hbe).cell 0 _ rfl,(hx.kept h0 hbZ).cell 6 _ rfl,(hx.kept h0 hbZ).cell 7 _ rfl,(hx.kept h0 hbZ).cell 8 _ rfl⟩)
 obtain ⟨q0,q1,x6,x7,x8⟩:=HCE.out w h0 h1
 clear hi h0 h1 hg hl hrr hs hr hB hx hZ hk
 go_enter Tryz.func135,Tryz.ntmps135
 go_wp2_with fail
 refine HG.out.mono ?_; rintro _ w2 ⟨rfl,hi2,hc2⟩
 have h02:=H0.out.then hc2; have h12:=H1.out.then hc2
 obtain ⟨wD,hwD⟩ : ∃ x,x=w2.drew:=⟨_,rfl⟩
 have hcD:Chg [] w2 wD:=by rw [hwD]; exact (Chg.refl [] w2).drew
 have HL2:=Lib.hid (HL.out wD (g s) (h02.then hcD.weak) (h12.then hcD.weak) (HK.out _ _ _ hi2 hcD))
 have HCD:=Lib.hid (hc2.then hcD.weak)
 clear hi2 hc2 h02 h12 hcD q0 q1 x6 x7 x8
 obtain ⟨q0,q1,x6,x7,x8⟩:=HCE.out wD (H0.out.then HCD.out) (H1.out.then HCD.out)
 go_wp2_with fail
 refine wp_region_C Z rfl (by kernel_rfl) ?_
 rw [← hwD]
 clear hwD
 have hS:Chg Z wD wD:=Chg.refl _ _
 repeat ((with_reducible refine gX ?_); (first | refine wpX_nil ?_ | refine sK ?_ | refine sM fun _ _=>?_ | refine sL (hz:=by first | exact Zone.of q1 hbe | exact Zone.of x6 hbZ) fun _ _=>?_ | refine sE fun _ _=>?_); go_wp2_with fail)
 refine HL2.out.mono ?_; rintro _ w3 ⟨rfl,hi3,hc3⟩
 have h03:=(H0.out.then HCD.out).then hc3; have h13:=(H1.out.then HCD.out).then hc3
 obtain ⟨wE,hwE⟩ : ∃ x,x=w3.drew:=⟨_,rfl⟩
 have hcE:Chg [] w3 wE:=by rw [hwE]; exact (Chg.refl [] w3).drew
 have HR2:=Lib.hid (HR.out wE (gl (g s)) (h03.then hcE.weak) (h13.then hcE.weak) (HK.out _ _ _ hi3 hcE))
 have HCX:=Lib.hid (HCD.out.then (hc3.then hcE.weak))
 have hS:=hS.then hc3
 clear hi3 h03 h13 hcE q0 q1 x6 x7 x8 hc3
 obtain ⟨q0,q1,x6,x7,x8⟩:=HCE.out wE (H0.out.then HCX.out) (H1.out.then HCX.out)
 go_wp2_with fail
 refine And.intro hS ?_
 repeat ((with_reducible refine gX ?_); (first | refine wpX_nil ?_ | refine sK ?_ | refine sM fun _ _=>?_ | refine sL (hz:=by first | exact Zone.of q1 hbe | exact Zone.of x6 hbZ) fun _ _=>?_ | refine sE fun _ _=>?_); go_wp2_with fail)
 go_wp2_with fail
 refine wp_region_C Z rfl (by kernel_rfl) ?_
 rw [← hwE]
 clear hwE hS
 have hS:Chg Z wE wE:=Chg.refl _ _
 repeat ((with_reducible refine gX ?_); (first | refine wpX_nil ?_ | refine sK ?_ | refine sM fun _ _=>?_ | refine sL (hz:=by first | exact Zone.of q1 hbe | exact Zone.of x7 hbZ) fun _ _=>?_ | refine sE fun _ _=>?_); go_wp2_with fail)
 refine HR2.out.mono ?_; rintro _ w4 ⟨rfl,hi4,hc4⟩
 have HC4:=Lib.hid (HCX.out.then hc4)
 have HI4:=Lib.hid hi4
 have hS:=hS.then hc4
 clear hi4 hc4 q0 q1 x6 x7 x8
 obtain ⟨q0,q1,x6,x7,x8⟩:=HCE.out w4 (H0.out.then HC4.out) (H1.out.then HC4.out)
 go_wp2_with fail
 refine And.intro hS ?_
 repeat ((with_reducible refine gX ?_); (first | refine wpX_nil ?_ | refine sK ?_ | refine sM fun _ _=>?_ | refine sL (hz:=by first | exact Zone.of q1 hbe | exact Zone.of x7 hbZ) fun _ _=>?_ | refine sE fun _ _=>?_); go_wp2_with fail)
 clear hS
 go_wp2_with fail
 clear q0 q1 x6 x7 x8
 go_loopw [5,28] (fun _ i wr=>∃ k:Nat,k≤vs.length∧i=num k∧Chg Z w wr∧Inv ((gs.take k).foldl (fun s f=>f s) (gr (gl (g s)))) wr) (fun _ i _=>vs.length - (intOf i).toNat)
 case atStart=>exact ⟨0,Nat.zero_le _,rfl,HC4.out,HI4.out⟩
 case round=>
  obtain ⟨k,hk,rfl,hc,hi⟩:=hrel
  have HCR:=Lib.hid hc; have HIR:=Lib.hid hi
  clear hc hi
  by_cases hlt : k < vs.length
  ·obtain ⟨v,hv⟩ : ∃ v,vs[k]?=some v:=⟨vs[k],List.getElem?_eq_getElem hlt⟩
   obtain ⟨p,gi,rfl,hgi,hvk⟩:=HS.out k v hv
   have hrw:=HROW.out.kept (H0.out.then HCR.out) HZ.out
   obtain ⟨bb,off,rfl,hcell⟩:=hrw.at_ (by omega)
   have hcv:=hcell k _ hv
   obtain ⟨q0,q1,x6,x7,x8⟩:=HCE.out wr (H0.out.then HCR.out) (H1.out.then HCR.out)
   have HV:=Lib.hid (hvk wr _ (H0.out.then HCR.out) (H1.out.then HCR.out) HIR.out)
   have HE:=Lib.hid (show (gs.take (k + 1)).foldl (fun s f=>f s) (gr (gl (g s)))=gi ((gs.take k).foldl (fun s f=>f s) (gr (gl (g s)))) by rw [List.take_add_one,hgi]; simp)
   clear hrw hcell hv hgi hvk
   go_wp2_with fail
   refine HV.out.mono ?_; rintro _ w5 ⟨rfl,hi5,hc5⟩
   have HI5:=Lib.hid hi5; have HC5:=Lib.hid (HCR.out.then hc5)
   clear hi5 hc5
   go_wp2_with fail
   go_roundw
   case rel=>exact ⟨k + 1,by omega,by go_num,HC5.out,by rw [HE.out]; exact HI5.out⟩
   case measure=>simp [intOf]; omega
  ·have HE:=Lib.hid (show gs.take k=gs by rw [List.take_of_length_le (by omega)])
   go_wp2_with fail
   refine bodyPost_end (results_none rfl _ _ _) rfl ⟨rfl,?_,HCR.out⟩
   have:=HIR.out
   rw [HE.out] at this
   exact this
theorem vk_all (hF : ∀ (cs:Array Value) (w:World),(callFunc fn cs).run Tryz.prog w = .ok (.enter fn cs) w) (hk : ∀ s w w',Inv s w→Chg [] w w'→Inv s w') (hB:Boxes w1 fn bd bf be) (hbf : bf∉Z) (hbe : be∉Z) (F:Nat→Prop) (hZ : ∀ x∈Z,¬ F x)
  (f:E→σ→σ) (hG : ∀ (x:E) (u:Value),x.isX→WF x→(toks x).length≤900000→EAt w0 F x [u]→Does fn bd w0 Z Inv u (f x)) :
  ∀ x:E,WF x→(toks x).length≤900000→(x.isX → ∀ u,EAt w0 F x [u]→VK fn bd w0 w1 Z Inv bf be u (visE f x)) ∧
   (x.isL → ∀ vs,EAt w0 F x vs → ∃ gs:List (σ→σ),gs.length=vs.length∧(∀ (i:Nat) v,vs[i]?=some v → ∃ p gi,v = .pointer p∧gs[i]?=some gi∧VK fn bd w0 w1 Z Inv bf be v gi) ∧ ∀ s,gs.foldl (fun s f=>f s) s=visE f x s)
 | .num p n,hw,hl=>⟨fun _ u h=>by
   have hd:=hG (.num p n) u trivial hw hl h
   obtain ⟨b,hb,hFb,hx⟩:=h; cases hb
   exact vk_node hF hk hB hbf hbe b _ _ _ _ _ _ none none none 0 [] F hZ hFb hx (Row.nil _ _ _) (by simp) _ hd id id vk_nil vk_nil [] (fun i v hv=>by simp at hv) rfl,fun h=>h.elim⟩
 | .var p m n,hw,hl=>⟨fun _ u h=>by
   have hd:=hG (.var p m n) u trivial hw hl h
   obtain ⟨b,hb,hFb,hx⟩:=h; cases hb
   exact vk_node hF hk hB hbf hbe b _ _ _ _ _ _ none none none 0 [] F hZ hFb hx (Row.nil _ _ _) (by simp) _ hd id id vk_nil vk_nil [] (fun i v hv=>by simp at hv) rfl,fun h=>h.elim⟩
 | .item p m n i,hw,hl=>⟨fun _ u h=>by
   have hd:=hG (.item p m n i) u trivial hw hl h
   obtain ⟨b,u1,hb,hFb,hx,hi⟩:=h; cases hb
   have ih:=(vk_all hF hk hB hbf hbe F hZ f hG i hw.2.2.1 (by simp only [toks,List.length_append,List.length_cons] at hl; omega)).1 hw.2.2.2 u1 hi
   obtain ⟨q,rfl⟩:=ptrV hw.2.2.2 hi
   exact vk_node hF hk hB hbf hbe b _ _ _ _ _ _ q none none 0 [] F hZ hFb hx (Row.nil _ _ _) (by simp) _ hd _ id ih vk_nil [] (fun i v hv=>by simp at hv) rfl,fun h=>h.elim⟩
 | .un p o x,hw,hl=>⟨fun _ u h=>by
   have hd:=hG (.un p o x) u trivial hw hl h
   obtain ⟨b,u1,hb,hFb,hx,hi⟩:=h; cases hb
   have hl2 : (toks x).length≤900000:=by have:=within_leV 5 x (toks x); simp only [toks,List.length_append,List.length_cons] at hl; omega
   have ih:=(vk_all hF hk hB hbf hbe F hZ f hG x hw.2.1 hl2).1 hw.2.2 u1 hi
   obtain ⟨q,rfl⟩:=ptrV hw.2.2 hi
   exact vk_node hF hk hB hbf hbe b _ _ _ _ _ _ q none none 0 [] F hZ hFb hx (Row.nil _ _ _) (by simp) _ hd _ id ih vk_nil [] (fun i v hv=>by simp at hv) rfl,fun h=>h.elim⟩
 | .bin p o x y,hw,hl=>⟨fun _ u h=>by
   have hd:=hG (.bin p o x y) u trivial hw hl h
   obtain ⟨b,u1,u2,hb,hFb,hx,hi1,hi2⟩:=h; cases hb
   have hl2 : (toks x).length≤900000∧(toks y).length≤900000:=by
    have h1:=within_leV (opLevel o) x (toks x); have h2:=within_leV (opLevel o + 1) y (toks y)
    simp only [toks,List.length_append,List.length_cons] at hl; omega
   have ih1:=(vk_all hF hk hB hbf hbe F hZ f hG x hw.2.1.1 hl2.1).1 hw.2.1.2 u1 hi1
   have ih2:=(vk_all hF hk hB hbf hbe F hZ f hG y hw.2.2.1 hl2.2).1 hw.2.2.2 u2 hi2
   obtain ⟨q1,rfl⟩:=ptrV hw.2.1.2 hi1
   obtain ⟨q2,rfl⟩:=ptrV hw.2.2.2 hi2
   exact vk_node hF hk hB hbf hbe b _ _ _ _ _ _ q1 q2 none 0 [] F hZ hFb hx (Row.nil _ _ _) (by simp) _ hd _ _ ih1 ih2 [] (fun i v hv=>by simp at hv) rfl,fun h=>h.elim⟩
 | .app p m n l,hw,hl=>⟨fun _ u h=>by
   have hd:=hG (.app p m n l) u trivial hw hl h
   obtain ⟨b,a,c,vs,hb,hFb,hx,hvc,hrow,hi⟩:=h; cases hb
   have hl2 : (toks l).length≤900000:=by simp only [toks,List.length_append,List.length_cons] at hl; omega
   obtain ⟨gs,hgl,hgs,hgv⟩:=(vk_all hF hk hB hbf hbe F hZ f hG l hw.2.2.1 hl2).2 hw.2.2.2 vs hi
   have hvl : vs.length≤1000000:=by
    have h1:=len_leV l vs hw.2.2.2 hw.2.2.1 hi
    omega
   have:=vk_node hF hk hB hbf hbe b _ _ _ _ _ _ none none a c vs F hZ hFb hx hrow hvl _ hd id id vk_nil vk_nil gs hgs hgl
   simp only [hgv,id] at this
   exact this,fun h=>h.elim⟩
 | .nil,_,_=>⟨fun h=>h.elim,fun _ vs h=>by
   obtain rfl : vs=[]:=h
   exact ⟨[],rfl,fun i v hv=>by simp at hv,fun s=>rfl⟩⟩
 | .cons x r,hw,hl=>⟨fun h=>h.elim,fun _ vs h=>by
   obtain ⟨u,us,rfl,h1,h2⟩:=h
   have hl2:=toks_consV x r
   have ih1:=(vk_all hF hk hB hbf hbe F hZ f hG x hw.1.1 (by omega)).1 hw.1.2 u h1
   obtain ⟨gs,hgl,hgs,hgv⟩:=(vk_all hF hk hB hbf hbe F hZ f hG r hw.2.1 (by omega)).2 hw.2.2 us h2
   obtain ⟨q,hq⟩:=ptrV hw.1.2 h1
   refine ⟨visE f x :: gs,by simp [hgl],fun i v hv=>?_,fun s=>by simp only [List.foldl_cons,hgv]; rfl⟩
   cases i with
   | zero=>simp at hv; subst hv; exact ⟨q,_,hq,rfl,ih1⟩
   | succ i=>simp at hv; obtain ⟨p,gi,h3,h4,h5⟩:=hgs i v hv; exact ⟨p,gi,h3,by simpa using h4,h5⟩⟩
end
end Go.Proofs.YtojkkgghndeimaaGreatDoor
namespace Go.Mq.Ref
open Go Go.RowKit Go.Mq Go.Mq.Tree
theorem set7V {w:World} {b:Nat} (v0 v1 v2 v3 v4 v5 v6:Value) {u0 u1 u2 u3 u4 u5 u6:Value} {t:TypeId} (h:Blk w b #[u0,u1,u2,u3,u4,u5,u6] t) : ∃ wF,(((((((w.setCell ⟨b,0,none⟩ v0).setCell ⟨b,1,none⟩ v1).setCell ⟨b,2,none⟩ v2).setCell ⟨b,3,none⟩ v3).setCell ⟨b,4,none⟩ v4).setCell ⟨b,5,none⟩ v5).setCell ⟨b,6,none⟩ v6)=wF∧Chg [b] w wF∧Blk wF b #[v0,v1,v2,v3,v4,v5,v6] t:=
 ⟨_,rfl,((((((Chg.set1 _ _ _ _).then (Chg.set1 _ _ _ _)).then (Chg.set1 _ _ _ _)).then (Chg.set1 _ _ _ _)).then (Chg.set1 _ _ _ _)).then (Chg.set1 _ _ _ _)).then (Chg.set1 _ _ _ _),by
  have:=((((((h.set 0 v0).set 1 v1).set 2 v2).set 3 v3).set 4 v4).set 5 v5).set 6 v6
  simpa using this⟩
theorem slen_leV (s:S) : s.len≤(stmtK s).length:=by
 induction s with
 | nil=>simp [S.len]
 | set p n i v r ih=>simp only [S.len,stmtK,List.length_append,List.length_cons]; omega
 | ret p v r ih=>simp only [S.len,stmtK,List.length_append,List.length_cons]; omega
 | wri p v r ih=>simp only [S.len,stmtK,List.length_append,List.length_cons]; omega
 | call p v r ih=>simp only [S.len,stmtK,List.length_append,List.length_cons]; omega
 | whil p v t r ih1 ih2=>simp only [S.len,stmtK,List.length_append,List.length_cons]; omega
 | ifs p v t e r ih1 ih2 ih3=>simp only [S.len,stmtK,List.length_append,List.length_cons]; omega
end Go.Mq.Ref
namespace Go.Proofs.YtojkkgghndeimaaGreatDoor
open Go Go.RowKit Go.Mq Go.Mq.Tree Go.Mq.Ref
set_option maxRecDepth 100000
set_option maxHeartbeats 4000000
section
variable {σ:Type} {fn:FuncId} {bd:Array Value} {w0:World} {Z:List Nat} {Inv : σ→World→Prop}
def VKA (fn:FuncId) (bd:Array Value) (w0:World) (Z:List Nat) (Inv : σ→World→Prop) (u:Value) (g : σ→σ):Prop:=
 ∀ (w1:World) (bf be:Nat),Boxes w1 fn bd bf be→bf∉Z→be∉Z→VK fn bd w0 w1 Z Inv bf be u g
def VS (fn:FuncId) (bd:Array Value) (w0:World) (Z:List Nat) (Inv : σ→World→Prop) (v:Value) (g : σ→σ):Prop:=
 ∀ (w:World) (s : σ),Chg Z w0 w→Inv s w→Calls Tryz.prog 90 #[v,.func (.func fn) #[] bd] w (fun e w'=>e = .returned (.tuple #[])∧Inv (g s) w'∧Chg Z w w')
def StV (fn:FuncId) (bd:Array Value) (w0:World) (Z:List Nat) (Inv : σ→World→Prop) (cs:List Value) (i:Nat) (g : σ→σ):Prop:=
 ∃ (k p:Int) (nm:ByteArray) (x y a1 a2:Option Addr) (n1 c1 n2 c2:Nat) (gx gy g1 g2 : σ→σ),
  (∀ (j:Nat) v,([.int .i64 k,.int .i64 p,.string nm,.pointer x,.pointer y,.slice a1 n1 c1,.slice a2 n2 c2] : List Value)[j]?=some v→cs[i * 7 + j]?=some v) ∧
  VKA fn bd w0 Z Inv (.pointer x) gx∧VKA fn bd w0 Z Inv (.pointer y) gy∧VS fn bd w0 Z Inv (.slice a1 n1 c1) g1∧VS fn bd w0 Z Inv (.slice a2 n2 c2) g2 ∧ ∀ s,g s=g2 (g1 (gy (gx s)))
theorem vRows (hk : ∀ s w w',Inv s w→Chg [] w w'→Inv s w') (F:Nat→Prop) (hZ : ∀ x∈Z,¬ F x) (hZl : ∀ x∈Z,x < w0.heap.size) {a:Option Addr} {n c:Nat} {cs:List Value} (hn : n≤1000000) (h:Row w0 F a cs) (gs:List (σ→σ)) (hgl : gs.length=n)
  (hi : ∀ (i:Nat) g,gs[i]?=some g→StV fn bd w0 Z Inv cs i g):VS fn bd w0 Z Inv (.slice a n c) (fun s=>gs.foldl (fun s f=>f s) s):=by
 intro w s h0 hinv
 have hsz:=h0.size
 obtain ⟨wA,hwA⟩ : ∃ x,w.alloc (.cells #[.func (.func fn) #[] bd] 152)=x:=⟨_,rfl⟩
 have hcA:Chg [] w wA:=hwA ▸ (Chg.refl _ _).alloc _
 have hbA:Blk wA w.heap.size #[.func (.func fn) #[] bd] 152:=hwA ▸ Blk.new w _ _
 obtain ⟨wB,hwB⟩ : ∃ x,wA.alloc (.cells #[.func (.func 135) #[] #[ptr w.heap.size,ptr wA.heap.size]] 152)=x:=⟨_,rfl⟩
 have hcB:Chg [] wA wB:=hwB ▸ (Chg.refl _ _).alloc _
 have hbB:Blk wB wA.heap.size #[.func (.func 135) #[] #[ptr w.heap.size,ptr wA.heap.size]] 152:=hwB ▸ Blk.new wA _ _
 have hsA:=hcA.size
 have HBX:=Lib.hid (show Boxes wB fn bd w.heap.size wA.heap.size from ⟨hbA.kept hcB (by simp),hbB⟩)
 have hbf : w.heap.size∉Z:=fun hm=>by have:=hZl _ hm; omega
 have hbe : wA.heap.size∉Z:=fun hm=>by have:=hZl _ hm; omega
 have HCB:=Lib.hid (hcA.then hcB)
 have HIB:=Lib.hid (hk s w wB hinv (hcA.then hcB))
 have H0:=Lib.hid h0; have HS:=Lib.hid hi; have HROW:=Lib.hid h; have HZ:=Lib.hid hZ; have HK:=Lib.hid hk
 clear hinv h0 hi h hZ hk hcA hcB hbA hbB hsA hsz
 have hmf : ∀ (fn:Fn) (first cap:Array Value) (w:World),(Instr.makeFunc fn first cap).run Tryz.prog w = .ok (.func fn first cap) w:=fun _ _ _ _=>rfl
 go_enter Tryz.func90,Tryz.ntmps90
 go_wp2_with fail
 clear hwA hwB
 go_loopw [6,10] (fun _ i wr=>∃ k:Nat,k≤n∧i=num k∧Chg Z wB wr∧Inv ((gs.take k).foldl (fun s f=>f s) s) wr) (fun _ i _=>n - (intOf i).toNat)
 case atStart=>exact ⟨0,Nat.zero_le _,rfl,Chg.refl _ _,HIB.out⟩
 case round=>
  obtain ⟨k,hk,rfl,hc,hi⟩:=hrel
  have HCR:=Lib.hid hc; have HIR:=Lib.hid hi
  have h0r:=(H0.out.then HCB.out.weak).then hc
  clear hc hi
  by_cases hlt : k < n
  ·obtain ⟨g,hg⟩ : ∃ g,gs[k]?=some g:=⟨gs[k]'(by omega),List.getElem?_eq_getElem (by omega)⟩
   obtain ⟨k0,p0,nm,x,y,a1,a2,n1,c1,n2,c2,gx,gy,g1,g2,hcs,hx,hy,h1,h2,he⟩:=HS.out k g hg
   have hrw:=HROW.out.kept h0r HZ.out
   obtain ⟨bb,off,rfl,hcell⟩:=hrw.at_ (by have:=(List.getElem?_eq_some_iff.1 (hcs 0 _ rfl)).1; omega)
   have gc : ∀ (j:Nat) v,([.int .i64 k0,.int .i64 p0,.string nm,.pointer x,.pointer y,.slice a1 n1 c1,.slice a2 n2 c2] : List Value)[j]?=some v→wr.cell? ⟨bb,off + k * 7 + j,none⟩=some v:=fun j v hv=>by
    rw [Nat.add_assoc]; exact hcell _ v (hcs j v hv)
   have d0:=gc 0 _ rfl; have d1:=gc 1 _ rfl; have d2:=gc 2 _ rfl; have d3:=gc 3 _ rfl; have d4:=gc 4 _ rfl; have d5:=gc 5 _ rfl; have d6:=gc 6 _ rfl
   rw [Nat.add_zero] at d0
   have HX:=Lib.hid (hx wB w.heap.size wA.heap.size HBX.out hbf hbe); have HY:=Lib.hid (hy wB w.heap.size wA.heap.size HBX.out hbf hbe); have HV1:=Lib.hid h1; have HV2:=Lib.hid h2
   have HE:=Lib.hid (show (gs.take (k + 1)).foldl (fun s f=>f s) s=g2 (g1 (gy (gx ((gs.take k).foldl (fun s f=>f s) s)))) by rw [List.take_add_one,hg]; simp [he])
   have HN:=Lib.hid (show ∀ wx,Chg Z wB wx→wx.cell? ⟨w.heap.size,0,none⟩=some (.func (.func fn) #[] bd)∧wx.cell? ⟨wA.heap.size,0,none⟩=some (.func (.func 135) #[] #[ptr w.heap.size,ptr wA.heap.size]) from fun wx hc=>⟨(HBX.out.f.kept hc hbf).cell 0 _ rfl,(HBX.out.e.kept hc hbe).cell 0 _ rfl⟩)
   have hbZ : ∀ x∈Z,x < wr.heap.size:=fun x hx=>by have:=hZl x hx; have:=h0r.size; omega
   have HBZ:=Lib.hid hbZ
   clear hg hcs hx hy h1 h2 he hrw hcell gc h0r hbZ
   go_upto_region 5 with fail
   go_cut [6] (fun s6 wx=>∃ bx:Nat,s6=ptr bx∧bx∉Z∧Blk wx bx #[.int .i64 k0,.int .i64 p0,.string nm,.pointer x,.pointer y,.slice a1 n1 c1,.slice a2 n2 c2] 138∧Chg [] wr wx)
   case first=>
    have hz:=Blk.new wr #[.int .i64 0,.int .i64 0,str [],nilp,nilp,nils,nils] 138
    obtain ⟨wC,hwC⟩ : ∃ x,wr.alloc (.cells #[.int .i64 0,.int .i64 0,str [],nilp,nilp,nils,nils] 138)=x:=⟨_,rfl⟩
    rw [hwC] at hz
    have hcC:Chg [] wr wC:=by rw [← hwC]; exact (Chg.refl _ _).alloc _
    obtain ⟨wF,hwF,hcF,hbF⟩:=set7V (.int .i64 k0) (.int .i64 p0) (.string nm) (.pointer x) (.pointer y) (.slice a1 n1 c1) (.slice a2 n2 c2) hz
    have HCW:=Lib.hid (hcC.trans hcF (fun x hx=>.inr (by simp at hx; omega)))
    have g0:=hcC.cellSome d0 (by simp); have g1:=hcC.cellSome d1 (by simp); have g2:=hcC.cellSome d2 (by simp); have g3:=hcC.cellSome d3 (by simp); have g4:=hcC.cellSome d4 (by simp); have g5:=hcC.cellSome d5 (by simp); have g6:=hcC.cellSome d6 (by simp)
    have z0:=hz.cell 0 _ rfl; have z1:=hz.cell 1 _ rfl; have z2:=hz.cell 2 _ rfl; have z3:=hz.cell 3 _ rfl; have z4:=hz.cell 4 _ rfl; have z5:=hz.cell 5 _ rfl; have z6:=hz.cell 6 _ rfl
    have y0:=hz.frozen 0; have y1:=hz.frozen 1; have y2:=hz.frozen 2; have y3:=hz.frozen 3; have y4:=hz.frozen 4; have y5:=hz.frozen 5; have y6:=hz.frozen 6
    have HB0:=Lib.hid hbF
    clear hcC hcF hbF hz
    go_wp2_with fail
    go_meet
    exact ⟨_,rfl,fun hm=>by have:=HBZ.out _ hm; omega,HB0.out,HCW.out⟩
   case rest=>
    obtain ⟨bx,rfl,hbx,hblk,hcx⟩:=hcut
    clear d0 d1 d2 d3 d4 d5 d6
    have HBL:=Lib.hid hblk
    have HC1:=Lib.hid (HCR.out.then hcx.weak)
    have HI1:=Lib.hid (HK.out _ _ _ HIR.out hcx)
    have e3:=hblk.cell 3 _ rfl
    obtain ⟨q0,q1⟩:=HN.out wc HC1.out
    have H0C:=Lib.hid (H0.out.then HCB.out.weak)
    clear hblk hcx
    go_wp2_with fail
    refine (HX.out wc _ (H0C.out.then HC1.out) HC1.out HI1.out).mono ?_; rintro _ w2 ⟨rfl,hi2,hc2⟩
    have HI2:=Lib.hid hi2; have HC2:=Lib.hid (HC1.out.then hc2); have HL2:=Lib.hid (HBL.out.kept hc2 hbx)
    clear q0 q1 e3 hi2 hc2
    have e4:=HL2.out.cell 4 _ rfl
    obtain ⟨q0,q1⟩:=HN.out w2 HC2.out
    go_wp2_with fail
    refine (HY.out w2 _ (H0C.out.then HC2.out) HC2.out HI2.out).mono ?_; rintro _ w3 ⟨rfl,hi3,hc3⟩
    have HI3:=Lib.hid hi3; have HC3:=Lib.hid (HC2.out.then hc3); have HL3:=Lib.hid (HL2.out.kept hc3 hbx)
    clear q0 q1 e4 hi3 hc3
    have e5:=HL3.out.cell 5 _ rfl
    obtain ⟨q0,q1⟩:=HN.out w3 HC3.out
    go_wp2_with fail
    refine (HV1.out w3 _ (H0C.out.then HC3.out) HI3.out).mono ?_; rintro _ w4 ⟨rfl,hi4,hc4⟩
    have HI4:=Lib.hid hi4; have HC4:=Lib.hid (HC3.out.then hc4); have HL4:=Lib.hid (HL3.out.kept hc4 hbx)
    clear q0 q1 e5 hi4 hc4
    have e6:=HL4.out.cell 6 _ rfl
    obtain ⟨q0,q1⟩:=HN.out w4 HC4.out
    go_wp2_with fail
    refine (HV2.out w4 _ (H0C.out.then HC4.out) HI4.out).mono ?_; rintro _ w5 ⟨rfl,hi5,hc5⟩
    have HI5:=Lib.hid hi5; have HC5:=Lib.hid (HC4.out.then hc5)
    clear q0 q1 e6 hi5 hc5
    go_wp2_with fail
    go_roundw
    case rel=>exact ⟨k + 1,by omega,by go_num,HC5.out,by rw [HE.out]; exact HI5.out⟩
    case measure=>simp [intOf]; omega
  ·have HE:=Lib.hid (show gs.take k=gs by rw [List.take_of_length_le (by omega)])
   clear h0r
   go_wp2_with fail
   refine bodyPost_end (results_none rfl _ _ _) rfl ⟨rfl,?_,HCB.out.weak.then HCR.out⟩
   have:=HIR.out
   rw [HE.out] at this
   exact this
theorem vka_nil:VKA fn bd w0 Z Inv nilp id:=fun _ _ _ _ _ _=>vk_nil
theorem StV.succ {cs:List Value} {i:Nat} {g : σ→σ} {x0 x1 x2 x3 x4 x5 x6:Value} (h:StV fn bd w0 Z Inv cs i g):StV fn bd w0 Z Inv (x0 :: x1 :: x2 :: x3 :: x4 :: x5 :: x6 :: cs) (i + 1) g:=by
 obtain ⟨k,p,nm,x,y,a1,a2,n1,c1,n2,c2,gx,gy,g1,g2,q,r⟩:=h
 refine ⟨k,p,nm,x,y,a1,a2,n1,c1,n2,c2,gx,gy,g1,g2,fun j v hv=>?_,r⟩
 rw [show (i + 1) * 7 + j=(i * 7 + j) + 7 by omega]; exact q j v hv
theorem StV.zero {cs:List Value} {k p:Int} {nm:List UInt8} {x y a1 a2:Option Addr} {n1 c1 n2 c2:Nat} {gx gy g1 g2 : σ→σ} (hx:VKA fn bd w0 Z Inv (.pointer x) gx) (hy:VKA fn bd w0 Z Inv (.pointer y) gy) (h1:VS fn bd w0 Z Inv (.slice a1 n1 c1) g1) (h2:VS fn bd w0 Z Inv (.slice a2 n2 c2) g2) :
  StV fn bd w0 Z Inv (.int .i64 k :: .int .i64 p :: str nm :: .pointer x :: .pointer y :: .slice a1 n1 c1 :: .slice a2 n2 c2 :: cs) 0 (fun s=>g2 (g1 (gy (gx s)))):=by
 refine ⟨k,p,bs nm,x,y,a1,a2,n1,c1,n2,c2,gx,gy,g1,g2,fun j v hv=>?_,hx,hy,h1,h2,fun _=>rfl⟩
 rw [Nat.zero_mul,Nat.zero_add]
 have hj:=(List.getElem?_eq_some_iff.1 hv).1
 simp only [List.length_cons,List.length_nil] at hj
 have : j=0∨j=1∨j=2∨j=3∨j=4∨j=5∨j=6:=by omega
 rcases this with rfl | rfl | rfl | rfl | rfl | rfl | rfl <;> exact hv
def Gs (fn:FuncId) (bd:Array Value) (w0:World) (Z:List Nat) (Inv : σ→World→Prop) (f:E→σ→σ) (s:S) (cs:List Value):Prop:=
 ∃ gs:List (σ→σ),gs.length=s.len∧(∀ (i:Nat) g,gs[i]?=some g→StV fn bd w0 Z Inv cs i g) ∧ ∀ t,gs.foldl (fun s f=>f s) t=visS f s t
theorem Gs.cons {f:E→σ→σ} {s r:S} {cs:List Value} {x0 x1 x2 x3 x4 x5 x6:Value} {g : σ→σ} (h:Gs fn bd w0 Z Inv f r cs) (hz:StV fn bd w0 Z Inv (x0 :: x1 :: x2 :: x3 :: x4 :: x5 :: x6 :: cs) 0 g) (hl : s.len=r.len + 1) (he : ∀ t,visS f r (g t)=visS f s t) :
  Gs fn bd w0 Z Inv f s (x0 :: x1 :: x2 :: x3 :: x4 :: x5 :: x6 :: cs):=by
 obtain ⟨gs,h1,h2,h3⟩:=h
 refine ⟨g :: gs,by simp [h1,hl],fun i q hq=>?_,fun t=>by rw [List.foldl_cons,h3,he]⟩
 cases i with
 | zero=>simp at hq; subst hq; exact hz
 | succ i=>exact (h2 i q (by simpa using hq)).succ
theorem vs_gs (hF : ∀ (cs:Array Value) (w:World),(callFunc fn cs).run Tryz.prog w = .ok (.enter fn cs) w) (hk : ∀ s w w',Inv s w→Chg [] w w'→Inv s w') (F:Nat→Prop) (hZ : ∀ x∈Z,¬ F x) (hZl : ∀ x∈Z,x < w0.heap.size)
  (f:E→σ→σ) (hG : ∀ (x:E) (u:Value),x.isX→WF x→(toks x).length≤900000→EAt w0 F x [u]→Does fn bd w0 Z Inv u (f x)) (s:S) :
  ∀ {d:Nat},WFS d s→(stmtK s).length≤900000 → ∀ {cs:List Value},SAt w0 F s cs→Gs fn bd w0 Z Inv f s cs:=by
 have vx : ∀ {d lv:Nat} {x:E},Fits d lv x→(toks x).length≤900000 → ∀ {u:Value},EAt w0 F x [u] → ∃ q,u = .pointer q∧VKA fn bd w0 Z Inv (.pointer q) (visE f x):=fun {d lv x} hf hl {u} h=>by
  obtain ⟨q,rfl⟩:=ptrV hf.1.2 h
  exact ⟨q,rfl,fun w1 bf be hB h1 h2=>(vk_all hF hk hB h1 h2 F hZ f hG x hf.1.1 hl).1 hf.1.2 _ h⟩
 have vsl : ∀ {t:S} {a:Option Addr} {c:Nat} {cs:List Value},(stmtK t).length≤900000→Row w0 F a cs→Gs fn bd w0 Z Inv f t cs→VS fn bd w0 Z Inv (.slice a t.len c) (visS f t):=fun {t a c cs} hl hr hg=>by
  obtain ⟨gs,h1,h2,h3⟩:=hg
  have hn:=slen_leV t
  have:=vRows hk F hZ hZl (c:=c) (by omega) hr gs h1 h2
  simpa only [h3] using this
 have vnil:VS fn bd w0 Z Inv nils id:=vRows hk F hZ hZl (cs:=[]) (by omega) (Row.nil _ _ _) [] rfl (fun i g h=>by simp at h)
 induction s with
 | nil=>
  intro d _ _ cs h
  exact ⟨[],rfl,fun i g h=>by simp at h,fun t=>rfl⟩
 | set p n ix v r ih=>
  rintro d hw hb cs ⟨ui,uv,t,rfl,h2,h3,h4⟩
  simp only [stmtK,List.length_append,List.length_cons] at hb
  obtain ⟨qv,rfl,kv⟩:=vx hw.2.2.1 (by omega) h3
  have hr:=ih hw.2.2.2 (by omega) h4
  cases ix with
  | none=>
   obtain rfl : ui=nilp:=h2
   exact hr.cons (StV.zero vka_nil kv vnil vnil) rfl (fun t=>rfl)
  | some x=>
   obtain ⟨qi,rfl,ki⟩:=vx (hw.2.1 x rfl) (by simp only [indexK,List.length_append,List.length_cons] at hb; omega) h2
   exact hr.cons (StV.zero ki kv vnil vnil) rfl (fun t=>rfl)
 | ret p v r ih=>
  rintro d hw hb cs ⟨uv,t,rfl,h3,h4⟩
  simp only [stmtK,List.length_append,List.length_cons] at hb
  obtain ⟨qv,rfl,kv⟩:=vx hw.1 (by omega) h3
  exact (ih hw.2 (by omega) h4).cons (StV.zero vka_nil kv vnil vnil) rfl (fun t=>rfl)
 | wri p v r ih=>
  rintro d hw hb cs ⟨uv,t,rfl,h3,h4⟩
  simp only [stmtK,List.length_append,List.length_cons] at hb
  obtain ⟨qv,rfl,kv⟩:=vx hw.1 (by omega) h3
  exact (ih hw.2 (by omega) h4).cons (StV.zero vka_nil kv vnil vnil) rfl (fun t=>rfl)
 | call p v r ih=>
  rintro d hw hb cs ⟨uv,t,rfl,h3,h4⟩
  simp only [stmtK,List.length_append,List.length_cons] at hb
  obtain ⟨qv,rfl,kv⟩:=vx hw.1.1 (by omega) h3
  exact (ih hw.2 (by omega) h4).cons (StV.zero vka_nil kv vnil vnil) rfl (fun t=>rfl)
 | whil p v b r ih1 ih2=>
  rintro d hw hb cs ⟨uv,a1,c1,ts,t,rfl,h3,_,hr,ht,h4⟩
  simp only [stmtK,List.length_append,List.length_cons] at hb
  obtain ⟨qv,rfl,kv⟩:=vx hw.1 (by omega) h3
  exact (ih2 hw.2.2 (by omega) h4).cons (StV.zero vka_nil kv (vsl (by omega) hr (ih1 hw.2.1.2 (by omega) ht)) vnil) rfl (fun t=>rfl)
 | ifs p v b e r ih1 ih2 ih3=>
  rintro d hw hb cs ⟨uv,a1,c1,ts,a2,c2,es,t,rfl,h3,_,hr,ht,_,hr2,he,h4⟩
  have hbe : (stmtK e).length≤(if e.isNil then [] else [101,108,115,101] :: stmtK e).length:=by
   cases e <;> simp [S.isNil,stmtK]
  simp only [stmtK,List.length_append,List.length_cons] at hb
  obtain ⟨qv,rfl,kv⟩:=vx hw.1 (by omega) h3
  exact (ih3 hw.2.2 (by omega) h4).cons (StV.zero vka_nil kv (vsl (by omega) hr (ih1 hw.2.1.1.2 (by omega) ht)) (vsl (by omega) hr2 (ih2 hw.2.1.2.2 (by omega) he))) rfl (fun t=>rfl)
theorem vwalk_any (hF : ∀ (cs:Array Value) (w:World),(callFunc fn cs).run Tryz.prog w = .ok (.enter fn cs) w) (hk : ∀ s w w',Inv s w→Chg [] w w'→Inv s w') (F:Nat→Prop) (hZ : ∀ x∈Z,¬ F x) (hZl : ∀ x∈Z,x < w0.heap.size)
  (f:E→σ→σ) (hG : ∀ (x:E) (u:Value),x.isX→WF x→(toks x).length≤900000→EAt w0 F x [u]→Does fn bd w0 Z Inv u (f x)) {s:S} {d:Nat} (hw:WFS d s) (hl : (stmtK s).length≤900000) {v:Value} (h:SlAt w0 F s v):VS fn bd w0 Z Inv v (visS f s):=by
 obtain ⟨a,c,cs,rfl,_,hr,hs⟩:=h
 obtain ⟨gs,h1,h2,h3⟩:=vs_gs hF hk F hZ hZl f hG s hw hl hs
 have hn:=slen_leV s
 have:=vRows hk F hZ hZl (c:=c) (by omega) hr gs h1 h2
 simpa only [h3] using this
end
end Go.Proofs.YtojkkgghndeimaaGreatDoor
