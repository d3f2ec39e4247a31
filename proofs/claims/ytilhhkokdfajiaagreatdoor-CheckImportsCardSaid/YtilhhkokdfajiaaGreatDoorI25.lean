/- Some texts in one. -/
import Derived.Sort.OwnSorted
import Derived.Test.YtilhhkokdfajiaaGreatDoorI7
import Derived.Test.YtilhhkokdfajiaaGreatDoorI15
import Derived.Test.YtilhhkokdfajiaaGreatDoorI17
import Derived.Test.YtilhhkokdfajiaaGreatDoorI23
import Derived.Test.YtilhhkokdfajiaaGreatDoorI24
namespace Go.Mq.Used
open Go Go.RowKit Go.Mq Go.Mq.Tree
theorem prs_atU {w:World} {F:Nat→Prop} : ∀ {l:List Proc} {cs:List Value} {k:Nat} {x:Proc},PrsAt w F l cs→l[k]?=some x → ∃ cs1 c cs',cs=cs1 ++ (c ++ cs')∧cs1.length=k * 6∧PrAt w F x c
 | [],_,_,_,_,hk=>by simp at hk
 | y :: r,_,0,x,h,hk=>by
  obtain ⟨c1,c2,rfl,h1,h2⟩:=h
  simp at hk; subst hk
  exact ⟨[],c1,c2,rfl,rfl,h1⟩
 | y :: r,_,k + 1,x,h,hk=>by
  obtain ⟨c1,c2,rfl,⟨_,_,_,rfl,_⟩,h2⟩:=h
  obtain ⟨cs1,c,cs',rfl,hl,hp⟩:=prs_atU h2 (by simpa using hk)
  exact ⟨_ ++ cs1,c,cs',by rw [List.append_assoc],by simp [hl]; omega,hp⟩
theorem useP_drop (g:List UInt8) {ps:List Proc} {k:Nat} {x:Proc} (h : ps[k]?=some x) (l:List (List UInt8)) : useP g (ps.drop k) l=useP g (ps.drop (k + 1)) (useS g x.body l):=by
 obtain ⟨hk,he⟩:=List.getElem?_eq_some_iff.1 h
 rw [List.drop_eq_getElem_cons hk,he]; rfl
theorem cntP_drop {ps:List Proc} {k:Nat} {x:Proc} (h : ps[k]?=some x) : cntP (ps.drop k)=cntS x.body + cntP (ps.drop (k + 1)):=by
 obtain ⟨hk,he⟩:=List.getElem?_eq_some_iff.1 h
 rw [List.drop_eq_getElem_cons hk,he]; simp [cntP]
end Go.Mq.Used
namespace Go.Proofs.YtilhhkokdfajiaaGreatDoor
open Go Go.RowKit Go.Sort Go.Shelf Go.Mq Go.Mq.Tree Go.Mq.Sym Go.Mq.Used
open Go.Mq.Check (FewE FewS FewM argsN)
set_option maxRecDepth 100000
set_option maxHeartbeats 4000000
theorem sort_own (ss:List (List UInt8)) (hs : ss.length≤1000) (v:Value) (w:World) (h : w.ownsRow 0 9 1 v ss.length (ss.map str)) :
  Calls Tryz.prog 29 #[v] w (fun e w'=>e = .returned (.tuple #[])∧w'.ownsRow 0 9 1 v ss.length ((ss.mergeSort fun x y=>decide (x≤y)).map str)∧Chg (blk v) w w'):=by
 rcases h.2 with ⟨rfl,h0⟩ | ⟨b,cap,cur,rfl,hbase,hb,h1,h2,h3,h4⟩
 ·have hss : ss=[]:=List.eq_nil_of_length_eq_zero h0
  subst hss
  refine (AnyM.slices_Sort_string_none Tryz.sort29 none 0 w).mono ?_
  rintro _ _ ⟨rfl,rfl⟩
  exact ⟨rfl,by simpa using h,Chg.refl _ _⟩
 ·refine (AnyM.slices_Sort_string Tryz.sort29 b 0 cap ss w (holds_of_block hb (by rw [Nat.mul_one] at h4; exact h4)) (Array.getElem?_eq_some_iff.1 hb).1 (by omega)).mono ?_
  rintro _ _ ⟨rfl,n,os,rfl⟩
  have hg:=grownBy_sorted (w:=w) (g:=b) (n:=n) (os:=os) (ss.mergeSort fun x y=>decide (x≤y)).toArray
  exact ⟨rfl,ownsRow_sorted (by simp) hbase hb h1 h2 h3,hg.os,hg.tape,hg.output,hg.size,fun k hk hn=>hg.block k hk (by simpa [blk,eq_comm] using hn)⟩
theorem used_any (m:Mod) (hf:FewM m) (hc : cntP m.procs + cntS m.body≤1000) (g:List UInt8) (F:Nat→Prop) (v:Value) (w:World) (hF : ∀ x,F x→x < w.heap.size) (hm:ModAt w F m v) :
  Calls Tryz.prog 9 #[v,str g] w (fun e w'=>∃ u,e = .returned u∧NamesAt w' (fun x=>w.heap.size≤x∧x < w'.heap.size) (usedL g m) u∧Chg [] w w'):=by
 have hmf : ∀ (fn:Fn) (first cap:Array Value) (w:World),(Instr.makeFunc fn first cap).run Tryz.prog w = .ok (.func fn first cap) w:=fun _ _ _ _=>rfl
 obtain ⟨vi,vv,vp,vb,rfl,⟨ai,ci,rfl,_⟩,⟨av,cv,rfl,_⟩,⟨ap,cp,pcs,rfl,hpc,hprow,hprs⟩,hbody⟩:=hm
 obtain ⟨ab,cb,bcs,rfl,hbc,hbrow,hbs⟩:=hbody
 have HF:=Lib.hid hf; have HC:=Lib.hid hc
 obtain ⟨w0,hw0⟩ : ∃ x,x=(((((w.alloc (.cells #[str m.name,.slice ai m.imports.length ci,.slice av m.vars.length cv,.slice ap m.procs.length cp,.slice ab m.body.len cb] 29)).alloc (.cells #[str g] 9)).alloc (.cells #[nils] 22)).alloc (.cells #[.func (.func 27) #[] #[ptr (w.heap.size + 1),ptr (w.heap.size + 1 + 1),ptr (w.heap.size + 1 + 1 + 1)]] 79)).alloc (.cells #[.func (.func 28) #[] #[ptr (w.heap.size + 1 + 1 + 1),ptr (w.heap.size + 1 + 1 + 1 + 1)]] 78)):=⟨_,rfl⟩
 have hca (w':World) (o:Obj):Chg [] w' (w'.alloc o):=(Chg.refl _ _).alloc _
 have hc0:Chg [] w w0:=by rw [hw0]; exact ((((hca _ _).then (hca _ _)).then (hca _ _)).then (hca _ _)).then (hca _ _)
 have hs0 : w0.heap.size=w.heap.size + 5:=by rw [hw0]; simp
 have hbm:Blk w0 w.heap.size #[str m.name,.slice ai m.imports.length ci,.slice av m.vars.length cv,.slice ap m.procs.length cp,.slice ab m.body.len cb] 29:=by
  rw [hw0]
  exact ((((Blk.new w _ _).kept (hca _ _) (by simp)).kept (hca _ _) (by simp)).kept (hca _ _) (by simp)).kept (hca _ _) (by simp)
 have hbg:Blk w0 (w.heap.size + 1) #[str g] 9:=by
  rw [hw0]
  have:=Blk.new (w.alloc (.cells #[str m.name,.slice ai m.imports.length ci,.slice av m.vars.length cv,.slice ap m.procs.length cp,.slice ab m.body.len cb] 29)) #[str g] 9
  rw [show (w.alloc (.cells #[str m.name,.slice ai m.imports.length ci,.slice av m.vars.length cv,.slice ap m.procs.length cp,.slice ab m.body.len cb] 29)).heap.size=w.heap.size + 1 by simp] at this
  exact ((this.kept (hca _ _) (by simp)).kept (hca _ _) (by simp)).kept (hca _ _) (by simp)
 have hbl:Blk w0 (w.heap.size + 1 + 1) #[nils] 22:=by
  rw [hw0]
  have:=Blk.new ((w.alloc (.cells #[str m.name,.slice ai m.imports.length ci,.slice av m.vars.length cv,.slice ap m.procs.length cp,.slice ab m.body.len cb] 29)).alloc (.cells #[str g] 9)) #[nils] 22
  rw [show ((w.alloc (.cells #[str m.name,.slice ai m.imports.length ci,.slice av m.vars.length cv,.slice ap m.procs.length cp,.slice ab m.body.len cb] 29)).alloc (.cells #[str g] 9)).heap.size=w.heap.size + 1 + 1 by simp] at this
  exact (this.kept (hca _ _) (by simp)).kept (hca _ _) (by simp)
 have hbe:Blk w0 (w.heap.size + 1 + 1 + 1) #[.func (.func 27) #[] #[ptr (w.heap.size + 1),ptr (w.heap.size + 1 + 1),ptr (w.heap.size + 1 + 1 + 1)]] 79:=by
  rw [hw0]
  have:=Blk.new (((w.alloc (.cells #[str m.name,.slice ai m.imports.length ci,.slice av m.vars.length cv,.slice ap m.procs.length cp,.slice ab m.body.len cb] 29)).alloc (.cells #[str g] 9)).alloc (.cells #[nils] 22)) #[.func (.func 27) #[] #[ptr (w.heap.size + 1),ptr (w.heap.size + 1 + 1),ptr (w.heap.size + 1 + 1 + 1)]] 79
  rw [show (((w.alloc (.cells #[str m.name,.slice ai m.imports.length ci,.slice av m.vars.length cv,.slice ap m.procs.length cp,.slice ab m.body.len cb] 29)).alloc (.cells #[str g] 9)).alloc (.cells #[nils] 22)).heap.size=w.heap.size + 1 + 1 + 1 by simp] at this
  exact this.kept (hca _ _) (by simp)
 have hbb:Blk w0 (w.heap.size + 1 + 1 + 1 + 1) #[.func (.func 28) #[] #[ptr (w.heap.size + 1 + 1 + 1),ptr (w.heap.size + 1 + 1 + 1 + 1)]] 78:=by
  rw [hw0]
  have:=Blk.new ((((w.alloc (.cells #[str m.name,.slice ai m.imports.length ci,.slice av m.vars.length cv,.slice ap m.procs.length cp,.slice ab m.body.len cb] 29)).alloc (.cells #[str g] 9)).alloc (.cells #[nils] 22)).alloc (.cells #[.func (.func 27) #[] #[ptr (w.heap.size + 1),ptr (w.heap.size + 1 + 1),ptr (w.heap.size + 1 + 1 + 1)]] 79)) #[.func (.func 28) #[] #[ptr (w.heap.size + 1 + 1 + 1),ptr (w.heap.size + 1 + 1 + 1 + 1)]] 78
  rw [show ((((w.alloc (.cells #[str m.name,.slice ai m.imports.length ci,.slice av m.vars.length cv,.slice ap m.procs.length cp,.slice ab m.body.len cb] 29)).alloc (.cells #[str g] 9)).alloc (.cells #[nils] 22)).alloc (.cells #[.func (.func 27) #[] #[ptr (w.heap.size + 1),ptr (w.heap.size + 1 + 1),ptr (w.heap.size + 1 + 1 + 1)]] 79)).heap.size=w.heap.size + 1 + 1 + 1 + 1 by simp] at this
  exact this
 have hB:UB w0 (w.heap.size + 1) (w.heap.size + 1 + 1) (w.heap.size + 1 + 1 + 1) g:=⟨hbg,hbe,by omega,by omega,by omega⟩
 have hst0:UseSt w0 (w.heap.size + 1 + 1) nils w0 []:=⟨Chg.refl _ _,hbl,⟨rfl,.inl ⟨rfl,rfl⟩⟩,fun x hx=>by cases hx⟩
 have hFL : ∀ x,F x→x≠w.heap.size + 1 + 1:=fun x hx=>by have:=hF x hx; omega
 have HUB:=Lib.hid (fun z s hz hfs hls v hv w lv l hst hl=>ubody (F:=F) hB hFL (fun x hx=>by have:=hF x hx; omega) hbb (by omega) z s hz hfs hls v hv w lv l hst hl)
 have HPR:=Lib.hid (hprow.kept hc0 (by simp)); have HPS:=Lib.hid (hprs.kept hc0 (by simp))
 have HBD:=Lib.hid (show SlAt w0 F m.body (.slice ab m.body.len cb) from ⟨ab,cb,bcs,rfl,hbc,hbrow.kept hc0 (by simp),hbs.kept hc0 (by simp)⟩)
 have HBM:=Lib.hid hbm; have HBB:=Lib.hid hbb; have HST0:=Lib.hid hst0; have HFL:=Lib.hid hFL; have HC0:=Lib.hid hc0; have HS0:=Lib.hid hs0
 have hfp:=hf.procs
 clear hprow hprs hbrow hbs hf hc hca hc0 hs0 hbm hbg hbl hbe hbb hB hst0 hFL hF
 go_enter Tryz.func9,Tryz.ntmps9
 go_wp2_with fail
 simp only [nils,ptr,str] at hw0
 rw [← hw0]
 clear hw0
 go_loopw [9,15] (fun _ i wr=>∃ (k:Nat) (lv2:Value) (l2:List (List UInt8)),i = .int .i64 k∧k≤m.procs.length∧UseSt w0 (w.heap.size + 1 + 1) lv2 wr l2∧useP g (m.procs.drop k) l2=useP g m.procs []∧l2.length + cntP (m.procs.drop k) + cntS m.body≤1000) (fun _ i _=>m.procs.length - (intOf i).toNat)
 case atStart=>exact ⟨0,nils,[],rfl,Nat.zero_le _,HST0.out,rfl,by have:=HC.out; simpa using this⟩
 case round=>
  obtain ⟨k,lv2,l2,rfl,hk,hst,hu,hl⟩:=hrel
  have HS:=Lib.hid hst; have HU:=Lib.hid hu; have HL:=Lib.hid hl
  clear hst hu hl
  by_cases hlt : k < m.procs.length
  ·obtain ⟨x,hx⟩ : ∃ x,m.procs[k]?=some x:=⟨m.procs[k],List.getElem?_eq_getElem hlt⟩
   obtain ⟨cs1,c6,cs',hcs,h6,hpr⟩:=prs_atU HPS.out hx
   obtain ⟨_,_,_,rfl,⟨a1,k1,rfl,_⟩,⟨a2,k2,rfl,_⟩,hbx⟩:=hpr
   have hbx0:=hbx
   obtain ⟨a3,k3,bx,rfl,_,_,_⟩:=hbx
   have hrow:=HPR.out.kept HS.out.chg (fun x hx hF=>by simp at hx; subst hx; exact HFL.out _ hF rfl)
   rw [hcs] at hrow
   obtain ⟨bb,off,rfl,d0,d1,d2,d3,d4,d5⟩:=cells6S (by simpa using hrow) h6
   have hz:=Blk.new wr #[str [],.int .i64 0,.bool false,nils,nils,nils] 73
   obtain ⟨wA,hwA⟩ : ∃ w',wr.alloc (.cells #[str [],.int .i64 0,.bool false,nils,nils,nils] 73)=w':=⟨_,rfl⟩
   rw [hwA] at hz
   have hcA:Chg [] wr wA:=by rw [← hwA]; exact (Chg.refl _ _).alloc _
   obtain ⟨wF,hwF,hcF,hbF⟩:=set6S (str x.name) (.int .i64 x.pos) (.bool x.seen) (.slice a1 x.params.length k1) (.slice a2 x.vars.length k2) (.slice a3 x.body.len k3) hz
   have hcw:Chg [] wr wF:=hcA.trans hcF (fun x hx=>.inr (by simp at hx; omega))
   have z0:=hz.cell 0 _ rfl; have z1:=hz.cell 1 _ rfl; have z2:=hz.cell 2 _ rfl; have z3:=hz.cell 3 _ rfl; have z4:=hz.cell 4 _ rfl; have z5:=hz.cell 5 _ rfl
   have y0:=hz.frozen 0; have y1:=hz.frozen 1; have y2:=hz.frozen 2; have y3:=hz.frozen 3; have y4:=hz.frozen 4; have y5:=hz.frozen 5
   have x5:=hbF.cell 5 _ rfl
   have HSF:=Lib.hid (HS.out.kept hcw)
   have b0:=(HBB.out.kept HSF.out.chg (by simp <;> omega)).cell 0 _ rfl
   have hcd:=cntP_drop hx
   have hfw:=HF.out.bodies x (List.mem_of_getElem? hx)
   have hlh:=HL.out
   rw [hcd] at hlh
   have HCALL:=Lib.hid (HUB.out _ x.body (Nat.le_refl _) hfw.1 hfw.2 _ hbx0 wF lv2 l2 HSF.out (by omega))
   have HU2:=Lib.hid (show useP g (m.procs.drop (k + 1)) (useS g x.body l2)=useP g m.procs [] by rw [← useP_drop g hx]; exact HU.out)
   have HL2:=Lib.hid (show (useS g x.body l2).length + cntP (m.procs.drop (k + 1)) + cntS m.body≤1000 by have:=useS_len g x.body l2; omega)
   clear hcs h6 hbx0 hrow hz hcA hcF hbF hcw hcd hfw hlh hx
   go_wp2_with fail
   refine HCALL.out.mono ?_; rintro _ wb ⟨rfl,lv3,hs3,_⟩
   have HS3:=Lib.hid hs3
   clear hs3
   clear d0 d1 d2 d3 d4 d5 z0 z1 z2 z3 z4 z5 y0 y1 y2 y3 y4 y5 hwA hwF x5 b0
   go_wp2_with fail
   exact ⟨⟨k + 1,lv3,_,by go_num,by omega,HS3.out,HU2.out,HL2.out⟩,by simp [intOf]; omega⟩
  ·have hkn : k=m.procs.length:=by omega
   have HL1:=Lib.hid (show l2=useP g m.procs [] by have:=HU.out; rw [List.drop_of_length_le (by omega)] at this; exact this)
   have hl1:=HL.out
   rw [List.drop_of_length_le (by omega)] at hl1
   have hl2 : l2.length + cntS m.body≤1000:=by simpa [cntP] using hl1
   have HCALL:=Lib.hid (HUB.out _ m.body (Nat.le_refl _) HF.out.body.1 HF.out.body.2 _ HBD.out wr lv2 l2 HS.out hl2)
   have HLE:=Lib.hid (show (useS g m.body l2).length≤1000 from Nat.le_trans (useS_len g m.body l2) hl2)
   have b0:=(HBB.out.kept HS.out.chg (by simp <;> omega)).cell 0 _ rfl
   have m4:=(HBM.out.kept HS.out.chg (by simp <;> omega)).cell 4 _ rfl
   clear hl1 hl2
   go_wp2_with fail
   refine HCALL.out.mono ?_; rintro _ wb ⟨rfl,lv3,hs3,_⟩
   clear b0 m4
   have HS3:=Lib.hid hs3
   have l0:=hs3.box.cell 0 _ rfl
   obtain ⟨la,lc,rfl⟩:=slice_of_owns hs3.own
   have HSRT:=Lib.hid (sort_own _ HLE.out _ wb hs3.own)
   clear hs3
   go_wp2_with fail
   refine HSRT.out.mono ?_; rintro _ wc ⟨rfl,ho,hc⟩
   have HO:=Lib.hid ho; have HCC:=Lib.hid hc
   have hpast:=HS3.out.past
   have l1:=(HS3.out.box.kept hc (fun hm=>by have:=hpast _ hm; have:=HS0.out; omega)).cell 0 _ rfl
   clear l0 ho hc hpast
   go_wp2_with fail
   go_ret
   have hul : usedL g m=(useS g m.body l2).mergeSort fun x y=>decide (x≤y):=by rw [usedL,useM,HL1.out]
   have hs5:=HS0.out
   have hlt:=owns_lt HO.out
   obtain ⟨a',c',he,hac,hrow⟩:=Row.of_owns HO.out (F:=fun x=>w.heap.size≤x∧x < wc.heap.size) (fun y hy=>⟨by have:=HS3.out.past y hy; omega,hlt y hy⟩)
   refine ⟨_,rfl,?_,?_⟩
   ·rw [hul]
    exact ⟨a',c',by rw [List.length_mergeSort]; exact he,by rw [List.length_mergeSort]; exact hac,hrow⟩
   ·exact (HC0.out.trans HS3.out.chg (fun x hx=>.inr (by simp at hx; omega))).trans HCC.out (fun x hx=>.inr (by have:=HS3.out.past x hx; omega))
end Go.Proofs.YtilhhkokdfajiaaGreatDoor
namespace Go.Mq.Used
open Go Go.RowKit Go.Mq Go.Mq.Tree
end Go.Mq.Used
