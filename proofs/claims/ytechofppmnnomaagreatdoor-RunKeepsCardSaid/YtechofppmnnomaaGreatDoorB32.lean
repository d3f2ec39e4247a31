/- Some texts in one. -/
import Derived.Sort.OwnSorted
import Derived.Test.YtechofppmnnomaaGreatDoorB17
import Derived.Test.YtechofppmnnomaaGreatDoorB30
import Derived.Test.YtechofppmnnomaaGreatDoorB31
namespace Go.Mq.Used
open Go Go.RowKit Go.Mq Go.Mq.Tree
theorem Un {w:World} {F:Nat→Prop} : ∀ {l:List aX} {cs:List Value} {k:Nat} {x:aX},kG w F l cs→l[k]?=some x → ∃ cs1 c cs',cs=cs1 ++ (c ++ cs')∧cs1.length=k * 6∧pR w F x c
 | [],_,_,_,_,hk=>by simp at hk
 | y :: r,_,0,x,h,hk=>by
  obtain⟨c1,c2,rfl,h1,h2⟩:=h;simp at hk;subst hk
  exact⟨[],c1,c2,rfl,rfl,h1⟩
 | y :: r,_,k + 1,x,h,hk=>by
  obtain⟨c1,c2,rfl,⟨_,_,_,rfl,_⟩,h2⟩:=h;obtain⟨cs1,c,cs',rfl,hl,hp⟩:=Un h2 (by simpa using hk);exact⟨_ ++ cs1,c,cs',by rw [List.append_assoc],by simp [hl];omega,hp⟩
theorem ad6 (g:List UInt8) {ps:List aX} {k:Nat} {x:aX} (h : ps[k]?=some x) (l:List (List UInt8)) : mh g (ps.drop k) l=mh g (ps.drop (k + 1)) (dA g x.body l):=by
 obtain⟨hk,he⟩:=List.getElem?_eq_some_iff.1 h;rw [List.drop_eq_getElem_cons hk,he];rfl
theorem ad7 {ps:List aX} {k:Nat} {x:aX} (h : ps[k]?=some x) : mZ (ps.drop k)=dD x.body + mZ (ps.drop (k + 1)):=by
 obtain⟨hk,he⟩:=List.getElem?_eq_some_iff.1 h;rw [List.drop_eq_getElem_cons hk,he];simp [mZ]
end Go.Mq.Used
namespace Go.Proofs.YtechofppmnnomaaGreatDoor
open Go Go.RowKit Go.Sort Go.Shelf Go.Mq Go.Mq.Tree Go.Mq.Sym Go.Mq.Used
open Go.Mq.Check (bK cu fI dx)
set_option maxRecDepth 100000
set_option maxHeartbeats 4000000
theorem ad8 (ss:List (List UInt8)) (hs : ss.length≤1000) (v:Value) (w:World) (h : w.ownsRow 0 9 1 v ss.length (ss.map str)) :
  Calls Tryz.prog 95 #[v] w (fun e w'=>e = .returned (.tuple #[])∧w'.ownsRow 0 9 1 v ss.length ((ss.mergeSort fun x y=>decide (x≤y)).map str)∧ae (blk v) w w'):=by
 rcases h.2 with⟨rfl,h0⟩|⟨b,cap,cur,rfl,hbase,hb,h1,h2,h3,h4⟩
 ·have hss : ss=[]:=List.eq_nil_of_length_eq_zero h0
  subst hss;refine(AnyM.slices_Sort_string_none Tryz.Um none 0 w).mono ?_;rintro _ _ ⟨rfl,rfl⟩;exact⟨rfl,by simpa using h,ae.refl _ _⟩
 ·refine(AnyM.slices_Sort_string Tryz.Um b 0 cap ss w (holds_of_block hb (by rw [Nat.mul_one] at h4;exact h4)) (Array.getElem?_eq_some_iff.1 hb).1 (by omega)).mono ?_
  rintro _ _ ⟨rfl,n,os,rfl⟩;have hg:=grownBy_sorted (w:=w) (g:=b) (n:=n) (os:=os) (ss.mergeSort fun x y=>decide (x≤y)).toArray;exact⟨rfl,ownsRow_sorted (by simp) hbase hb h1 h2 h3,hg.os,hg.tape,hg.output,hg.size,fun k hk hn=>hg.block k hk (by simpa [blk,eq_comm] using hn)⟩
theorem ad9 (m:Mod) (hf:fI m) (hc : mZ m.procs + dD m.body≤1000) (g:List UInt8) (F:Nat→Prop) (v:Value) (w:World) (hF : ∀ x,F x→x < w.heap.size) (hm:gY w F m v) :
  Calls Tryz.prog 53 #[v,str g] w (fun e w'=>∃ u,e = .returned u∧eF w' (fun x=>w.heap.size≤x∧x < w'.heap.size) (fM g m) u∧ae [] w w'):=by
 have mO : ∀ (fn:Fn) (first cap:Array Value) (w:World),(Instr.makeFunc fn first cap).run Tryz.prog w = .ok (.func fn first cap) w:=fun _ _ _ _=>rfl
 obtain⟨vi,vv,vp,vb,rfl,⟨ai,ci,rfl,_⟩,⟨av,cv,rfl,_⟩,⟨ap,cp,uO,rfl,hpc,Uo,Uq⟩,hbody⟩:=hm;obtain⟨ab,cb,DV,rfl,hbc,Ur,hbs⟩:=hbody;have HF:=zh hf;have HC:=zh hc;obtain⟨w0,hw0⟩ : ∃ x,x=(((((w.alloc (.cells #[str m.name,.slice ai m.imports.length ci,.slice av m.vars.length cv,.slice ap m.procs.length cp,.slice ab m.body.len cb] 32)).alloc (.cells #[str g] 9)).alloc (.cells #[ah] 27)).alloc (.cells #[.func (.func 93) #[] #[ptr (w.heap.size + 1),ptr (w.heap.size + 1 + 1),ptr (w.heap.size + 1 + 1 + 1)]] 189)).alloc (.cells #[.func (.func 94) #[] #[ptr (w.heap.size + 1 + 1 + 1),ptr (w.heap.size + 1 + 1 + 1 + 1)]] 158)):=⟨_,rfl⟩
 have aO (w':World) (o:Obj):ae [] w' (w'.alloc o):=(ae.refl _ _).alloc _;have hc0:ae [] w w0:=by rw [hw0];exact((((aO _ _).then (aO _ _)).then (aO _ _)).then (aO _ _)).then (aO _ _)
 have hs0 : w0.heap.size=w.heap.size + 5:=by rw [hw0];simp
 have gy:ag w0 w.heap.size #[str m.name,.slice ai m.imports.length ci,.slice av m.vars.length cv,.slice ap m.procs.length cp,.slice ab m.body.len cb] 32:=by
  rw [hw0];exact((((ag.new w _ _).kept (aO _ _) (by simp)).kept (aO _ _) (by simp)).kept (aO _ _) (by simp)).kept (aO _ _) (by simp)
 have hbg:ag w0 (w.heap.size + 1) #[str g] 9:=by
  rw [hw0];have:=ag.new (w.alloc (.cells #[str m.name,.slice ai m.imports.length ci,.slice av m.vars.length cv,.slice ap m.procs.length cp,.slice ab m.body.len cb] 32)) #[str g] 9;rw [show (w.alloc (.cells #[str m.name,.slice ai m.imports.length ci,.slice av m.vars.length cv,.slice ap m.procs.length cp,.slice ab m.body.len cb] 32)).heap.size=w.heap.size + 1 by simp] at this;exact((this.kept (aO _ _) (by simp)).kept (aO _ _) (by simp)).kept (aO _ _) (by simp)
 have hbl:ag w0 (w.heap.size + 1 + 1) #[ah] 27:=by
  rw [hw0];have:=ag.new ((w.alloc (.cells #[str m.name,.slice ai m.imports.length ci,.slice av m.vars.length cv,.slice ap m.procs.length cp,.slice ab m.body.len cb] 32)).alloc (.cells #[str g] 9)) #[ah] 27;rw [show ((w.alloc (.cells #[str m.name,.slice ai m.imports.length ci,.slice av m.vars.length cv,.slice ap m.procs.length cp,.slice ab m.body.len cb] 32)).alloc (.cells #[str g] 9)).heap.size=w.heap.size + 1 + 1 by simp] at this;exact(this.kept (aO _ _) (by simp)).kept (aO _ _) (by simp)
 have hbe:ag w0 (w.heap.size + 1 + 1 + 1) #[.func (.func 93) #[] #[ptr (w.heap.size + 1),ptr (w.heap.size + 1 + 1),ptr (w.heap.size + 1 + 1 + 1)]] 189:=by
  rw [hw0];have:=ag.new (((w.alloc (.cells #[str m.name,.slice ai m.imports.length ci,.slice av m.vars.length cv,.slice ap m.procs.length cp,.slice ab m.body.len cb] 32)).alloc (.cells #[str g] 9)).alloc (.cells #[ah] 27)) #[.func (.func 93) #[] #[ptr (w.heap.size + 1),ptr (w.heap.size + 1 + 1),ptr (w.heap.size + 1 + 1 + 1)]] 189;rw [show (((w.alloc (.cells #[str m.name,.slice ai m.imports.length ci,.slice av m.vars.length cv,.slice ap m.procs.length cp,.slice ab m.body.len cb] 32)).alloc (.cells #[str g] 9)).alloc (.cells #[ah] 27)).heap.size=w.heap.size + 1 + 1 + 1 by simp] at this;exact this.kept (aO _ _) (by simp)
 have hbb:ag w0 (w.heap.size + 1 + 1 + 1 + 1) #[.func (.func 94) #[] #[ptr (w.heap.size + 1 + 1 + 1),ptr (w.heap.size + 1 + 1 + 1 + 1)]] 158:=by
  rw [hw0];have:=ag.new ((((w.alloc (.cells #[str m.name,.slice ai m.imports.length ci,.slice av m.vars.length cv,.slice ap m.procs.length cp,.slice ab m.body.len cb] 32)).alloc (.cells #[str g] 9)).alloc (.cells #[ah] 27)).alloc (.cells #[.func (.func 93) #[] #[ptr (w.heap.size + 1),ptr (w.heap.size + 1 + 1),ptr (w.heap.size + 1 + 1 + 1)]] 189)) #[.func (.func 94) #[] #[ptr (w.heap.size + 1 + 1 + 1),ptr (w.heap.size + 1 + 1 + 1 + 1)]] 158;rw [show ((((w.alloc (.cells #[str m.name,.slice ai m.imports.length ci,.slice av m.vars.length cv,.slice ap m.procs.length cp,.slice ab m.body.len cb] 32)).alloc (.cells #[str g] 9)).alloc (.cells #[ah] 27)).alloc (.cells #[.func (.func 93) #[] #[ptr (w.heap.size + 1),ptr (w.heap.size + 1 + 1),ptr (w.heap.size + 1 + 1 + 1)]] 189)).heap.size=w.heap.size + 1 + 1 + 1 + 1 by simp] at this;exact this
 have hB:UB w0 (w.heap.size + 1) (w.heap.size + 1 + 1) (w.heap.size + 1 + 1 + 1) g:=⟨hbg,hbe,by omega,by omega,by omega⟩;have Us:qA w0 (w.heap.size + 1 + 1) ah w0 []:=⟨ae.refl _ _,hbl,⟨rfl,.inl ⟨rfl,rfl⟩⟩,fun x hx=>by cases hx⟩;have lT : ∀ x,F x→x≠w.heap.size + 1 + 1:=fun x hx=>by have:=hF x hx;omega
 have JQ:=zh (fun z s hz hfs hls v hv w lv l hst hl=>adU (F:=F) hB lT (fun x hx=>by have:=hF x hx;omega) hbb (by omega) z s hz hfs hls v hv w lv l hst hl);have oO:=zh (Uo.kept hc0 (by simp));have tH:=zh (Uq.kept hc0 (by simp));have oG:=zh (show fT w0 F m.body (.slice ab m.body.len cb) from⟨ab,cb,DV,rfl,hbc,Ur.kept hc0 (by simp),hbs.kept hc0 (by simp)⟩);have lX:=zh gy;have qg:=zh hbb;have ad':=zh Us;have uh:=zh lT;have aF:=zh hc0;have AV:=zh hs0;have hfp:=hf.procs;clear Uo Uq Ur hbs hf hc aO hc0 hs0 gy hbg hbl hbe hbb hB Us lT hF
 go_enter Tryz.func53,Tryz.ntmps53
 go_wp2_with fail;simp only [ah,ptr,str] at hw0;rw [← hw0];clear hw0
 go_loopw [9,15] (fun _ i wr=>∃ (k:Nat) (ky:Value) (l2:List (List UInt8)),i = .int .i64 k∧k≤m.procs.length∧qA w0 (w.heap.size + 1 + 1) ky wr l2∧mh g (m.procs.drop k) l2=mh g m.procs []∧l2.length + mZ (m.procs.drop k) + dD m.body≤1000) (fun _ i _=>m.procs.length - (intOf i).toNat)
 case atStart=>exact⟨0,ah,[],rfl,Nat.zero_le _,ad'.out,rfl,by have:=HC.out;simpa using this⟩
 case round=>
  obtain⟨k,ky,l2,rfl,hk,hst,hu,hl⟩:=hrel;have HS:=zh hst;have HU:=zh hu;have HL:=zh hl;clear hst hu hl;by_cases hlt : k < m.procs.length
  ·obtain⟨x,hx⟩ : ∃ x,m.procs[k]?=some x:=⟨m.procs[k],List.getElem?_eq_getElem hlt⟩
   obtain⟨cs1,c6,cs',hcs,h6,hpr⟩:=Un tH.out hx;obtain⟨_,_,_,rfl,⟨a1,k1,rfl,_⟩,⟨a2,k2,rfl,_⟩,hbx⟩:=hpr;have hbx0:=hbx;obtain⟨a3,k3,bx,rfl,_,_,_⟩:=hbx;have hrow:=oO.out.kept HS.out.aP (fun x hx hF=>by simp at hx;subst hx;exact uh.out _ hF rfl);rw [hcs] at hrow;obtain⟨bb,off,rfl,d0,d1,d2,d3,d4,d5⟩:=yO (by simpa using hrow) h6;have hz:=ag.new wr #[str [],.int .i64 0,.bool false,ah,ah,ah] 72;obtain⟨wA,az⟩ : ∃ w',wr.alloc (.cells #[str [],.int .i64 0,.bool false,ah,ah,ah] 72)=w':=⟨_,rfl⟩
   rw [az] at hz;have hcA:ae [] wr wA:=by rw [← az];exact(ae.refl _ _).alloc _
   obtain⟨wF,hwF,aV,aG⟩:=FZ (str x.name) (.int .i64 x.pos) (.bool x.seen) (.slice a1 x.params.length k1) (.slice a2 x.vars.length k2) (.slice a3 x.body.len k3) hz;have hcw:ae [] wr wF:=hcA.trans aV (fun x hx=>.inr (by simp at hx;omega));have z0:=hz.cell 0 _ rfl;have z1:=hz.cell 1 _ rfl;have z2:=hz.cell 2 _ rfl;have z3:=hz.cell 3 _ rfl;have z4:=hz.cell 4 _ rfl;have z5:=hz.cell 5 _ rfl;have y0:=hz.frozen 0;have y1:=hz.frozen 1;have y2:=hz.frozen 2;have y3:=hz.frozen 3;have y4:=hz.frozen 4;have y5:=hz.frozen 5;have x5:=aG.cell 5 _ rfl;have EB:=zh (HS.out.kept hcw);have b0:=(qg.out.kept EB.out.aP (by simp <;> omega)).cell 0 _ rfl;have hcd:=ad7 hx;have hfw:=HF.out.bodies x (List.mem_of_getElem? hx);have hlh:=HL.out;rw [hcd] at hlh;have l5:=zh (JQ.out _ x.body (Nat.le_refl _) hfw.1 hfw.2 _ hbx0 wF ky l2 EB.out (by omega));have HU2:=zh (show mh g (m.procs.drop (k + 1)) (dA g x.body l2)=mh g m.procs [] by rw [← ad6 g hx];exact HU.out);have HL2:=zh (show (dA g x.body l2).length + mZ (m.procs.drop (k + 1)) + dD m.body≤1000 by have:=zD g x.body l2;omega);clear hcs h6 hbx0 hrow hz hcA aV aG hcw hcd hfw hlh hx;go_wp2_with fail;refine l5.out.mono ?_;rintro _ wb ⟨rfl,Ir,hs3,_⟩;have mY:=zh hs3;clear hs3;clear d0 d1 d2 d3 d4 d5 z0 z1 z2 z3 z4 z5 y0 y1 y2 y3 y4 y5 az hwF x5 b0;go_wp2_with fail;exact⟨⟨k + 1,Ir,_,by go_num,by omega,mY.out,HU2.out,HL2.out⟩,by simp [intOf];omega⟩
  ·have hkn : k=m.procs.length:=by omega
   have yU:=zh (show l2=mh g m.procs [] by have:=HU.out;rw [List.drop_of_length_le (by omega)] at this;exact this);have hl1:=HL.out;rw [List.drop_of_length_le (by omega)] at hl1;have hl2 : l2.length + dD m.body≤1000:=by simpa [mZ] using hl1
   have l5:=zh (JQ.out _ m.body (Nat.le_refl _) HF.out.body.1 HF.out.body.2 _ oG.out wr ky l2 HS.out hl2);have jG:=zh (show (dA g m.body l2).length≤1000 from Nat.le_trans (zD g m.body l2) hl2);have b0:=(qg.out.kept HS.out.aP (by simp <;> omega)).cell 0 _ rfl;have m4:=(lX.out.kept HS.out.aP (by simp <;> omega)).cell 4 _ rfl;clear hl1 hl2;go_wp2_with fail;refine l5.out.mono ?_;rintro _ wb ⟨rfl,Ir,hs3,_⟩;clear b0 m4;have mY:=zh hs3;have l0:=hs3.box.cell 0 _ rfl;obtain⟨la,lc,rfl⟩:=gu hs3.own;have aeb:=zh (ad8 _ jG.out _ wb hs3.own);clear hs3;go_wp2_with fail;refine aeb.out.mono ?_;rintro _ wc ⟨rfl,ho,hc⟩;have HO:=zh ho;have gK:=zh hc;have hpast:=mY.out.past;have l1:=(mY.out.box.kept hc (fun hm=>by have:=hpast _ hm;have:=AV.out;omega)).cell 0 _ rfl;clear l0 ho hc hpast;go_wp2_with fail;go_ret
   have Az : fM g m=(dA g m.body l2).mergeSort fun x y=>decide (x≤y):=by rw [fM,Bf,yU.out]
   have hs5:=AV.out;have hlt:=pM HO.out;obtain⟨a',c',he,hac,hrow⟩:=Row.jF HO.out (F:=fun x=>w.heap.size≤x∧x < wc.heap.size) (fun y hy=>⟨by have:=mY.out.past y hy;omega,hlt y hy⟩);refine⟨_,rfl,?_,?_⟩
   ·rw [Az]
    exact⟨a',c',by rw [List.length_mergeSort];exact he,by rw [List.length_mergeSort];exact hac,hrow⟩
   ·exact(aF.out.trans mY.out.aP (fun x hx=>.inr (by simp at hx;omega))).trans gK.out (fun x hx=>.inr (by have:=mY.out.past x hx;omega))
end Go.Proofs.YtechofppmnnomaaGreatDoor
