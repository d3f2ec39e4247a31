/- Some texts in one. -/
import Derived.Test.YtechofppmnnomaaGreatDoorA33
import Derived.Test.YtechofppmnnomaaGreatDoorA34
namespace Go.Proofs.YtechofppmnnomaaGreatDoor
open Go Go.RowKit Go.Mq Go.Mq.Tree Go.Mq.Sym Go.Mq.Run
open Go.Mq.Check (check Out)
set_option maxRecDepth 100000
set_option maxHeartbeats 4000000
structure Two (w0 w:World) (bv bw:Nat) (OV GV OW GW:Nat→Prop) (V W:Wd):Prop where
 v:dP w OV GV bv V
 w_:dP w OW GW bw W
 iv:Run.Inv V
 iw:Run.Inv W
 ov : ∀ y,OV y→w0.heap.size≤y
 ow : ∀ y,OW y→w0.heap.size≤y
 dv : ∀ y,OV y→¬ OW y∧¬ GW y
 dw : ∀ y,OW y→¬ OV y∧¬ GV y
 aV:ae [] w0 w
section
variable {w0 w w':World} {bv bw:Nat} {OV GV OW GW vR vS:Nat→Prop} {V W V':Wd}
theorem Two.swap (h:Two w0 w bv bw OV GV OW GW V W):Two w0 w bw bv OW GW OV GV W V:=⟨h.w_,h.v,h.iw,h.iv,h.ow,h.ov,h.dw,h.dv,h.aV⟩
theorem Two.kept (h:Two w0 w bv bw OV GV OW GW V W) (hc:ae [] w w'):Two w0 w' bv bw OV GV OW GW V W:=⟨h.v.kept hc (by simp),h.w_.kept hc (by simp),h.iv,h.iw,h.ov,h.ow,h.dv,h.dw,h.aV.then hc⟩
theorem Two.act (h:Two w0 w bv bw OV GV OW GW V W) (hv:dP w' vR vS bv V') (hI:Run.Inv V') (ho : ∀ y,vR y→OV y∨w.heap.size≤y) (hg : ∀ y,vS y→GV y∨w.heap.size≤y∨y < w0.heap.size) (hc:uh OV w w'):Two w0 w' bv bw vR vS OW GW V' W:=by
 obtain⟨Z,hz,hZ⟩:=hc;have h0:=h.aV.size;have hlt : ∀ y,w.heap.size≤y→¬ OW y∧¬ GW y:=fun y hy=>⟨fun k=>by have:=h.w_.lt y (.inl k);omega,fun k=>by have:=h.w_.lt y (.inr k);omega⟩
 refine⟨hv,h.w_.kept hz (fun x hx=>h.dv x (hZ x hx)),hI,h.iw,fun y hy=>?_,h.ow,fun y hy=>?_,fun y hy=>⟨fun k=>?_,fun k=>?_⟩,h.aV.trans hz (fun x hx=>.inr (h.ov x (hZ x hx)))⟩
 ·rcases ho y hy with k|k
  ·exact h.ov y k
  ·omega
 ·rcases ho y hy with k|k
  ·exact h.dv y k
  ·exact hlt y k
 ·rcases ho y k with k|k
  ·exact(h.dw y hy).1 k
  ·exact(hlt y k).1 hy
 ·rcases hg y k with k|k|k
  ·exact(h.dw y hy).2 k
  ·exact(hlt y k).1 hy
  ·have:=h.ow y hy;omega
end
theorem Vm {w0 w:World} {bv bw B g:Nat} {OV GV OW GW F:Nat→Prop} {V W:Wd} {x:Ac} {r:Wd × Nat × List Int × Int × Int} (h:Two w0 w bv bw OV GV OW GW V W) (hL:Laid w B) (hE:kL w) (mJ : 0 < w0.heap.size) (ha:Row w F x.ad (ints x.args)) (hF : ∀ y,F y→y < w0.heap.size) (ht : x.text.length≤1000) (h10 : x.args.length≤10) (hr : qw g V x 300=some r) (hI:Run.Inv r.1) :
  Calls Tryz.prog 23 #[ptr bv,.agg #[num x.what,str x.text,str x.name,str x.proc,.slice x.ad x.args.length x.cap],num 300] w (fun e w'=>∃ (ea:Option Addr) (ec:Nat) (vR vS:Nat→Prop),e = .returned (.tuple #[.agg #[num r.2.1,.slice ea r.2.2.1.length ec],num r.2.2.2.1,num r.2.2.2.2])∧Row w' (fun y=>w.heap.size≤y) ea (ints r.2.2.1)∧Two w0 w' bv bw vR vS OW GW r.1 W∧uh OV w w'):=by
 have h0:=h.aV.size;refine(afn h.v h.iv hL hE (fun ho=>by have:=h.ov _ ho;omega) ha (fun y hy=>⟨by have:=hF y hy;omega,fun ho=>by have:=h.ov y ho;have:=hF y hy;omega⟩) ht h10 (by omega : 300≤1000000) hr).mono ?_;rintro _ w' ⟨ve,vR,vS,rfl,⟨ov,rfl,hov,hof⟩,l5,hown,hg,hch⟩;obtain⟨ea,ec,rfl,_,hrow⟩:=Row.jU (F:=fun y=>w.heap.size≤y) hov (fun g hg=>hof g hg);exact⟨ea,ec,vR,vS,rfl,hrow,h.act l5 hI hown (fun y hy=>(hg y hy).imp id .inl) hch,hch⟩
theorem afC (l:List Ac) (hl : l.length≤9223372036854775807) (t:List UInt8) (ai3 : t.length≤9223372036854775807) (F:Nat→Prop) (a:Option Addr) (c:Nat) (w:World) (B:Nat) (hL:Laid w B) (hE:kL w) (hA:Ey w F l a) (hF : ∀ y,F y→y < w.heap.size)
  (hf : ∀ x∈l,x.text.length≤9223372036854775807∧x.name.length≤9223372036854775807∧x.proc.length≤9223372036854775807∧x.args.length≤9223372036854775807) :
  Calls Tryz.prog 5 #[.slice a l.length c,str t] w (Holds w):=by
 have HH:=zh (adS l hl F a c w hA.row hf);by_cases hq : xU l=true∧t.length≤900
 rotate_left
 ·cases hh : xU l
  all_goals
   rw [hh] at HH;have Nk : xU l=true→900 < t.length:=fun h=>Nat.lt_of_not_le fun k=>hq ⟨h,k⟩
   try have Nk:=Nk hh
   clear hq hh hL hE hA hF hf
   go_enter Tryz.func5,Tryz.ntmps5
   go_wp2_with fail;refine HH.out.mono ?_;rintro _ w1 ⟨rfl,hc1⟩;have cB:=zh hc1;clear hc1;go_wp2_with fail;go_ret
   exact⟨rfl,cB.out⟩
 obtain⟨hh,Nk⟩:=hq;rw [hh] at HH;obtain⟨hl12,dJ⟩:=afo hh;have Vn:=zh dJ;have HL:=zh hL;have sN:=zh hE;have HA:=zh hA;have HF:=zh hF;clear hh hf dJ hL hE hA hF
 go_enter Tryz.func5,Tryz.ntmps5
 go_wp2_with fail;refine HH.out.mono ?_;rintro _ w1 ⟨rfl,hc1⟩;have HR:=zh (afc w1 B (HL.out.kept hc1 (by simp)));have cB:=zh hc1;clear hc1;go_wp2_with fail;refine HR.out.mono ?_;rintro _ w2 ⟨rfl,hc2⟩;have aD:=zh (cB.out.then hc2);have HP:=zh (Ao t (by omega) w2 B (HL.out.kept (cB.out.then hc2) (by simp)));clear hc2;go_wp2_with fail;refine HP.out.mono ?_;rintro e w3 ⟨hc3,hr⟩;have bz:=zh (aD.out.then hc3);clear hc3;cases hp : parse t with
 | bad en q=>
  rw [hp] at hr;obtain⟨b,rfl,_,_⟩:=hr;obtain⟨wA,wF,ay,hwF,hz,gI,aG⟩:=IP w3 32 (str []) (str []) ah ah ah ah (z1:=ah) (z2:=ah) (z3:=ah) (z4:=ah);obtain⟨z0,z1,z2,z3,z4⟩:=hz.five;obtain⟨y0,y1,y2,y3,y4,_⟩:=hz.lI;have dM:=zh (bz.out.then gI);clear hz gI aG hp;go_wp2_with fail;go_ret
  exact⟨rfl,dM.out⟩
 | ok m=>
  have gW:=zh (zD (by omega) hp);rw [hp] at hr;obtain⟨v,rfl,hmod⟩:=hr;have jO:=zh hmod;obtain⟨ai,ci,av,cv,ap,cp,ab,cb,rfl,_,_⟩:=Gb hmod;obtain⟨wA,wF,ay,hwF,hz,gI,aG⟩:=IP w3 32 (str []) (str m.name) (.slice ai m.imports.length ci) (.slice av m.vars.length cv) (.slice ap m.procs.length cp) (.slice ab m.body.len cb) (z1:=ah) (z2:=ah) (z3:=ah) (z4:=ah);obtain⟨z0,z1,z2,z3,z4⟩:=hz.five;obtain⟨y0,y1,y2,y3,y4,_⟩:=hz.lI;have IY:=bz.out.then gI
  have fw:=zh (Ug #[ptr w3.heap.size] 21 (fun _ _=>rfl) l (by omega) (x9 m.name) F a c wF (HA.out.row.kept IY (by simp)) (fun x hx w' hc=>afp x m.name _ _ _ _ _ w' B (HL.out.kept (IY.then hc) (by simp)) (Vn.out x hx).1 (aG.kept hc (by simp))));have dM:=zh IY;have pV:=zh aG;have MO:=zh (hmod.kept gI (by simp));have lT:=zh gI;have pU : ∀ (fn:Fn) (first cap:Array Value) (w:World),(Instr.makeFunc fn first cap).run Tryz.prog w = .ok (.func fn first cap) w:=fun _ _ _ _=>rfl
  clear hz gI aG hp IY hmod;go_wp2_with fail;refine fw.out.mono ?_;rintro _ w4 ⟨rfl,hc4⟩;clear ay hwF z0 z1 z2 z3 z4 y0 y1 y2 y3 y4;have cu:=zh hc4;have zZ:=zh (dM.out.then hc4);obtain⟨wV,xO⟩ : ∃ x,w4.alloc (.cells #[.map none,ah] 40)=x:=⟨_,rfl⟩
  have Nl:ag wV w4.heap.size #[.map none,ah] 40:=by rw [← xO];exact ag.new w4 _ _
  have uy:ae [] w4 wV:=by rw [← xO];exact(ae.refl _ _).alloc _
  have hsV : wV.heap.size=w4.heap.size + 1:=by rw [← xO];simp
  obtain⟨wW,xZ⟩ : ∃ x,wV.alloc (.cells #[.map none,ah] 40)=x:=⟨_,rfl⟩
  have hbW:ag wW wV.heap.size #[.map none,ah] 40:=by rw [← xZ];exact ag.new wV _ _
  have hcW:ae [] wV wW:=by rw [← xZ];exact(ae.refl _ _).alloc _
  obtain⟨bv,hbv⟩ : ∃ b,b=w4.heap.size:=⟨_,rfl⟩
  obtain⟨bw,hbw⟩ : ∃ b,b=wV.heap.size:=⟨_,rfl⟩
  rw [← hbv] at Nl;rw [← hbw] at hbW;have hsz : w3.heap.size < w4.heap.size∧bv=w4.heap.size∧bw=w4.heap.size + 1:=⟨by have:=(pV.out.kept hc4 (by simp)).lt;omega,hbv,by omega⟩;have Bz:=zh (show Two w4 wW bv bw (fun y=>y=bv) (fun _=>False) (fun y=>y=bw) (fun _=>False) Wd.zero Wd.zero from
   ⟨dP.new (Nl.kept hcW (by simp)),dP.new hbW,Inv.zero,Inv.zero,fun y hy=>by omega,fun y hy=>by omega,fun y hy=>⟨by omega,id⟩,fun y hy=>⟨by omega,id⟩,uy.then hcW⟩)
  have jF:=zh hsz;obtain⟨g,r,hld,Vo⟩:=TH Inv.zero gW.out 300;have hx:=pV.out.kept (hc4.then (uy.then hcW)) (by simp);obtain⟨x0,x1,x2,x3,x4⟩:=hx.five;have M3:=zh (LK g Bz.out.w_ (MO.out.kept (hc4.then (uy.then hcW)) (by simp)) (fun y hy=>⟨by have:=hy.2;have:=(hc4.then (uy.then hcW)).size;have:=lT.out.size;omega,fun e=>by have:=hy.2;omega⟩) gW.out (by omega : 300≤9223372036854775807) hld);have Li:=zh hld;have xA:=zh Vo;clear hc4 Nl uy hsV hbW hcW hsz hld Vo hx;go_wp2_with fail;rw [← hbv,← hbw];clear xO xZ hbv hbw x0 x1 x2 x3 x4;refine M3.out.mono ?_;rintro _ w5 ⟨ve,vo,rfl,hev,jQ,l5,hch⟩;obtain⟨ov,rfl,hov,_⟩:=hev;obtain⟨ea,ec,rfl⟩:=gq hov;have IZ:=zh (Bz.out.swap.act l5 xA.out (fun y hy=>hy.imp id (fun h=>h.1)) (fun y hy=>.inr (.inr (by
   rcases hy with h|h
   ·exact h.elim
   ·have:=h.2;have:=jF.out;omega))) hch)
  obtain⟨wA,w6,ay,iG,⟨i0,i1⟩,⟨j0,j1⟩,hc6,_⟩:=Na w5 43 r.2.1 (.slice ea r.2.2.1.length ec) (z:=num 0) (z1:=ah);have bD:=zh hc6;have Gp:=zh (fun(hu : l.any (x9 m.name)=false) (x:Ac) (hx : x∈l)=>(show Apart m.name x from by
   have hn:=List.any_eq_false.1 hu x hx;simp only [x9,Bool.or_eq_true,not_or,beq_iff_eq] at hn;refine⟨hn.1,fun m' hm'=>?_⟩;have h2:=hn.2;rw [hm'] at h2
   simpa using h2))
  have Vp : (r.2.2.2 = .fine∧vo = .nilIface) ∨ ∃ t v,vo = .iface t v:=by
   cases ho : r.2.2.2 with
   | fine=>rw [ho] at jQ;exact .inl ⟨rfl,jQ⟩
   | plain n=>rw [ho] at jQ;exact .inr ⟨_,_,jQ⟩
   | at_ en p=>rw [ho] at jQ;obtain⟨b,h,_⟩:=jQ;exact .inr ⟨_,_,h⟩
  clear hov jQ l5 hch hc6;cases hu : l.any (x9 m.name) with
  | true=>
   rcases Vp with⟨_,rfl⟩|⟨_,_,rfl⟩
   all_goals
    go_wp2_with fail;go_ret
    exact⟨rfl,zZ.out.then (IZ.out.aV.then bD.out)⟩
  | false=>
  rcases Vp with⟨Vq,rfl⟩|⟨_,_,rfl⟩
  rotate_left
  ·go_wp2_with fail
   go_ret
   exact⟨rfl,zZ.out.then (IZ.out.aV.then bD.out)⟩
  have jf:=zh (afw gW.out Li.out xA.out Vq);have afE:=zh (Gp.out hu);obtain⟨W1,y1,o1,r1⟩:=r;simp only at IZ jf xA;have DR:=zh (IZ.out.swap.kept bD.out);have Ea:=zh (Mt DR.out.w_ DR.out.iw);obtain⟨V0,ES⟩ : ∃ v,v=W1.vs m.name:=⟨_,rfl⟩
  rw [← ES] at jf;obtain⟨sm,hsm⟩ : ∃ s,s=bs (IX m.name V0):=⟨_,rfl⟩
  have hall : str (allT W1) = .string sm:=by
   rw [Vl jf.out Inv.zero,hsm]
   show str (IX m.name V0 ++ [])=_
   rw [List.append_nil]
  rw [hall] at Ea;have J3:=zh hsm;clear hu Vq ES hsm hall Gp;go_wp2_with fail;clear ay iG i0 i1 j0 j1;refine Ea.out.mono ?_;rintro _ w7 ⟨rfl,dQ⟩;have HT7:=zh (DR.out.kept dQ);clear dQ;go_wp2_with fail
  go_loopw [13,14,15,16,17,18,19] (fun i _ _ _ _ _ _ wr=>∃ (k:Nat) (V W:Wd) (OV GV OW GW:Nat→Prop),i = .int .i64 k∧k≤l.length∧Hid (Two w4 wr bv bw OV GV OW GW V W∧Beside m.name m V0 V W)) (fun i _ _ _ _ _ _ _=>l.length - (intOf i).toNat)
  case atStart=>exact⟨0,_,_,_,_,_,_,rfl,Nat.zero_le _,zh ⟨HT7.out,jf.out⟩⟩
  case round=>
   obtain⟨k,V,W,OV,GV,OW,GW,rfl,hk,hrl⟩:=hrel;by_cases hlt : k < l.length
   rotate_left
   ·go_wp2_with fail
    go_ret
    exact⟨rfl,zZ.out.then hrl.out.1.aV⟩
   obtain⟨x,hx⟩ : ∃ x,l[k]?=some x:=⟨l[k],List.getElem?_eq_getElem hlt⟩
   have hmem:=List.mem_of_getElem? hx;have hcw:=zZ.out.then hrl.out.1.aV
   obtain⟨bb,off,rfl,d0,d1,d2,d3,d4⟩:=MB (HA.out.row.kept hcw (by simp)) hx;obtain⟨ft,_,_,fa⟩:=Vn.out x hmem;have h42:=zZ.out.size;have mJ : 0 < w4.heap.size:=by have:=lt_of_cell sN.out;omega
   have Nn : ∀ y,F y→y < w4.heap.size:=fun y hy=>by have:=HF.out y hy;omega
   obtain⟨g1,rv,hr1,hI1⟩:=Uk hrl.out.1.iv ft 300;obtain⟨g2,Np,hr2,hI2⟩:=Uk hrl.out.1.iw ft 300;have Vr:=zh (And.intro mJ Nn);have HR1:=zh hr1;have HR2:=zh hr2;have HI2:=zh hI2;have xI:=hrl;have afG:=zh (Vm hrl.out.1 (HL.out.kept hcw (by simp)) (sN.out.kept hcw (by simp)) mJ ((HA.out.args x hmem).2.kept hcw (by simp)) Nn ft fa hr1 hI1);have Vt:=zh hmem;have HX:=zh hx;clear hx hcw hr1 hI1 hr2 hI2 mJ Nn hrl hmem h42;go_wp2_with fail;refine afG.out.mono ?_;rintro _ w8 ⟨Vu,Nq,vR,vS,rfl,Vv,ET,Nr⟩;obtain⟨wA,w9,ay,EI,⟨i0,i1⟩,⟨j0,j1⟩,bR,aW⟩:=Na w8 43 rv.2.1 (.slice Vu rv.2.2.1.length Nq) (z:=num 0) (z1:=ah);have Vw:=zh (ET.kept bR);have EU:=zZ.out.then Vw.out.aV
   clear d0 d1 d2 d3 d4;obtain⟨_,_,he9,d0,d1,d2,d3,d4⟩:=MB (HA.out.row.kept EU (by simp)) HX.out;cases he9
   have afI:=zh (Vm Vw.out.swap (HL.out.kept EU (by simp)) (sN.out.kept EU (by simp)) Vr.out.1 ((HA.out.args x Vt.out).2.kept EU (by simp)) Vr.out.2 ft fa HR2.out HI2.out);have dH:=zh aW;have afJ:=zh (Vv.kept bR (by simp));have dh:=zh bR;have ai4:=zh Nr;have dK:=zh (show ∀ y,OW y→y < wr.heap.size from fun y hy=>xI.out.1.w_.lt y (.inl hy));have HS8:=zh (show wr.heap.size≤w8.heap.size by obtain⟨Z,hz,_⟩:=Nr;exact hz.size);clear Vv ET Nr bR aW EU;go_wp2_with fail;clear ay EI i0 i1 j0 j1 d0 d1 d2 d3 d4;refine afI.out.mono ?_;rintro _ w10 ⟨Vx,Ns,OW',GW',rfl,hrow2,ET,⟨Z,hz,hZ⟩⟩;obtain⟨wA,w11,ay,afN,⟨i0,i1⟩,⟨j0,j1⟩,EW,Vy⟩:=Na w10 43 Np.2.1 (.slice Vx Np.2.2.1.length Ns) (z:=num 0) (z1:=ah);have vT:=zh (ET.kept EW).swap;have Nt:=zh Vy;have Vz:=zh (hrow2.kept EW (by simp));have I1 : w8.heap.size∉Z:=fun hm=>by have:=dK.out _ (hZ _ hm);have:=HS8.out;omega
   have Nu:=zh ((dH.out.kept hz I1).kept EW (by simp));have VA:=zh ((afJ.out.kept hz (fun y hy hn=>by have:=dK.out y (hZ y hy);omega)).kept EW (by simp));have Nv:=zh (Vj HR1.out);have DK:=zh (Vj HR2.out);have Nw:=afx xI.out.2 xI.out.1.iv xI.out.1.iw (afE.out x Vt.out) ft HR1.out HR2.out;obtain⟨V',y1',o1',n1',c1'⟩:=rv;obtain⟨W',y2',I4,n2',c2'⟩:=Np;simp only at Nw vT Nu Nt VA Vz Nv DK;have afO:=zh Nw;clear hrow2 ET hz hZ EW Vy I1 Nw;by_cases h12 : c1'=12∨c2'=12
   ·cases hq1 : (c1' == 12)
    all_goals
     have hq2 : (c1' == 12)=false→(c2' == 12)=true:=fun h=>by
      rcases h12 with h1|h1
      ·simp [h1] at h
      ·simp [h1]
     try have hq2:=hq2 hq1
     clear h12;go_wp2_with fail;go_ret
     exact⟨rfl,zZ.out.then vT.out.aV⟩
   have hq1 : (c1' == 12)=false:=by simp only [beq_eq_false_iff_ne];exact fun h=>h12 (.inl h)
   have oH:=afO.out.resolve_left (fun h=>h12 (.inr h));obtain⟨heq,hbs⟩:=oH;simp only [Prod.mk.injEq] at heq;obtain⟨rfl,rfl,rfl,rfl⟩:=heq;have VB:=zh (adA (w:=w11) (y1:=y2') (y2:=y2') (c1:=Nq) (c2:=Ns) (by have:=Nv.out;omega) (by have:=Nv.out;omega) (VA.out.mono (fun _ _=>trivial)) (Vz.out.mono (fun _ _=>trivial)) rfl rfl);rw [show (decide (y2'=y2') && decide (I4=I4))=true by simp] at VB;obtain⟨sv,hsv⟩ : ∃ s,s=bs (allT V'):=⟨_,rfl⟩
   have HA1:=zh (fun w' (hc:ae [] w11 w')=>Mt (vT.out.v.kept hc (by simp)) vT.out.iv);have HA2:=zh (fun w' (hc:ae [] w11 w')=>Mt (vT.out.w_.kept hc (by simp)) vT.out.iw);have hsw : bs (allT W')=sm ++ sv:=by rw [Vl hbs vT.out.iv,← BI,hsv,J3.out]
   have hsz : (sm ++ sv).size≤30000:=by rw [← hsw,Jk];exact afB vT.out.iw
   have hsz2 : sm.size + sv.size≤30000:=by rw [← ByteArray.size_append];exact hsz
   simp only [str,← hsv,hsw] at HA1 HA2;have afP:=zh hbs;obtain⟨k0,k1⟩ : w11.cell? ⟨w8.heap.size,0,none⟩=some (num y2')∧w11.cell? ⟨w8.heap.size,1,none⟩=some (.slice Vu I4.length Nq):=⟨Nu.out.cell 0 _ rfl,Nu.out.cell 1 _ rfl⟩;obtain⟨l0,l1⟩ : w11.cell? ⟨w10.heap.size,0,none⟩=some (num y2')∧w11.cell? ⟨w10.heap.size,1,none⟩=some (.slice Vx I4.length Ns):=⟨Nt.out.cell 0 _ rfl,Nt.out.cell 1 _ rfl⟩;clear hsv hsw hbs h12;go_wp2_with fail;clear ay afN i0 i1 j0 j1;refine VB.out.mono ?_;rintro _ w12 ⟨rfl,qX⟩;have VC:=zh qX;clear qX k0 k1 l0 l1;go_wp2_with fail;refine(HA1.out w12 VC.out).mono ?_;rintro _ w13 ⟨rfl,VD⟩;have VE:=zh (VC.out.then VD);clear VD;go_wp2_with fail;refine(HA2.out w13 VE.out).mono ?_;rintro _ w14 ⟨rfl,VF⟩;have afQ:=zh (VE.out.then VF);clear VF;go_wp2_with fail;refine⟨⟨k + 1,V',W',vR,vS,OW',GW',by go_num,by omega,zh ⟨vT.out.kept afQ.out,afP.out⟩⟩,by simp [intOf];omega⟩
end Go.Proofs.YtechofppmnnomaaGreatDoor
