/- Some texts in one. -/
import Derived.Lib.ReflectliteSwap
import Derived.Laws.Externs
import Derived.Sort.Walk0
import Derived.Deep.DeepCutAuto
import Derived.Test.YtojkkgghndeimaaGreatDoorO10
import Derived.Test.YtojkkgghndeimaaGreatDoorO16
import Derived.Test.YtojkkgghndeimaaGreatDoorO18
import Derived.Test.YtojkkgghndeimaaGreatDoorO23
import Derived.Test.YtojkkgghndeimaaGreatDoorO24
namespace Go.Mq.Used
open Go Go.RowKit Go.Mq Go.Mq.Tree Go.Mq.Plan
theorem sort_same {s t:List (List UInt8)} (h : s.Perm t) : s.mergeSort (fun x y=>decide (x≤y))=t.mergeSort fun x y=>decide (x≤y):=by
 have htr : ∀ a b c:List UInt8,decide (a≤b)=true→decide (b≤c)=true→decide (a≤c)=true:=fun a b c h1 h2=>by
  simp only [decide_eq_true_eq] at h1 h2 ⊢; exact List.le_trans h1 h2
 have hto : ∀ a b:List UInt8,(decide (a≤b) || decide (b≤a))=true:=fun a b=>by
  rcases List.le_total a b with h | h <;> simp [h]
 refine List.Perm.eq_of_pairwise (le:=fun x y:List UInt8=>decide (x≤y)=true) (fun a b _ _ x y=>?_) (List.pairwise_mergeSort htr hto s) (List.pairwise_mergeSort htr hto t) ?_
 ·exact List.le_antisymm (by simpa using x) (by simpa using y)
 ·exact ((List.mergeSort_perm _ _).trans h).trans (List.mergeSort_perm _ _).symm
theorem perm_few : ∀ (a b:List (List UInt8)),a.Nodup→(∀ x∈a,x∈b)→b.length≤a.length→a.Perm b
 | [],b,_,_,hl=>by
  have : b=[]:=List.eq_nil_of_length_eq_zero (Nat.le_zero.1 hl)
  subst this; exact List.Perm.nil
 | x :: a,b,hn,hs,hl=>by
  rw [List.nodup_cons] at hn
  have hx:=hs x (by simp)
  have h1:=List.perm_cons_erase hx
  refine (List.Perm.cons x (perm_few a (b.erase x) hn.2 (fun y hy=>?_) ?_)).trans h1.symm
  ·have hne : y≠x:=fun e=>hn.1 (by rw [← e]; exact hy)
   exact (List.mem_erase_of_ne hne).2 (hs y (by simp [hy]))
  ·rw [List.length_erase_of_mem hx]; simp at hl; omega
theorem next_perm {n:List UInt8} {rest rest':List (List UInt8)} (hn : rest.Nodup) (h1 : n∈rest) (h2 : ∀ x,x∈rest→x≠n→x∈rest') (h3 : rest'.length < rest.length) : rest.Perm (n :: rest'):=by
 have h4:=List.perm_cons_erase h1
 refine h4.trans (List.Perm.cons n ?_)
 refine perm_few _ _ (hn.erase n) (fun x hx=>?_) ?_
 ·have:=(List.Nodup.mem_erase_iff hn).1 hx
  exact h2 x this.2 this.1
 ·rw [List.length_erase_of_mem h1]; omega
theorem touch_nodup {g m n:List UInt8} {l:List (List UInt8)} (h : l.Nodup) : (touch g m n l).Nodup:=by
 rw [touch]
 split
 ·next hh=>rw [List.nodup_append]; exact ⟨h,by simp,fun a ha b hb=>by simp at hb; subst hb; exact fun e=>hh.2.2 (e ▸ ha)⟩
 ·exact h
theorem useE_nodup (g:List UInt8) (e:E) : ∀ l:List (List UInt8),l.Nodup→(useE g e l).Nodup:=by
 induction e with
 | num p n=>exact fun l h=>h
 | var p m n=>exact fun l h=>touch_nodup h
 | item p m n i ih=>exact fun l h=>ih _ (touch_nodup h)
 | un p o x ih=>exact fun l h=>ih _ h
 | bin p o x y ih1 ih2=>exact fun l h=>ih2 _ (ih1 _ h)
 | app p m n a ih=>exact fun l h=>ih _ (touch_nodup h)
 | nil=>exact fun l h=>h
 | cons x r ih1 ih2=>exact fun l h=>ih2 _ (ih1 _ h)
theorem useS_nodup (g:List UInt8) (s:S) : ∀ l:List (List UInt8),l.Nodup→(useS g s l).Nodup:=by
 have ho : ∀ (i:Option E) (l:List (List UInt8)),l.Nodup→(useO g i l).Nodup:=fun i l h=>by
  cases i with
  | none=>exact h
  | some x=>exact useE_nodup g x l h
 induction s with
 | nil=>exact fun l h=>h
 | set p n i v r ih=>exact fun l h=>ih _ (useE_nodup g v _ (ho i _ h))
 | ret p v r ih=>exact fun l h=>ih _ (useE_nodup g v _ h)
 | wri p v r ih=>exact fun l h=>ih _ (useE_nodup g v _ h)
 | call p v r ih=>exact fun l h=>ih _ (useE_nodup g v _ h)
 | whil p v t r ih1 ih2=>exact fun l h=>ih2 _ (ih1 _ (useE_nodup g v _ h))
 | ifs p v t e r ih1 ih2 ih3=>exact fun l h=>ih3 _ (ih2 _ (ih1 _ (useE_nodup g v _ h)))
theorem useM_nodup (g:List UInt8) (m:Mod) : (useM g m).Nodup:=by
 refine useS_nodup g m.body _ ?_
 rw [useP]
 generalize hl : ([] : List (List UInt8))=l
 have h : l.Nodup:=by rw [← hl]; simp
 clear hl
 generalize m.procs=ps
 induction ps generalizing l with
 | nil=>exact h
 | cons x r ih=>exact ih _ (useS_nodup g x.body l h)
theorem body_le {m:Mod} {x:Proc} (hx : x∈m.procs) : (stmtK x.body).length≤(modK m).length:=by
 have h1 : (procK x).length≤(m.procs.flatMap procK).length:=by
  generalize m.procs=ps at hx
  induction ps with
  | nil=>cases hx
  | cons y r ih=>
   rw [List.flatMap_cons,List.length_append]
   rcases List.mem_cons.1 hx with rfl | h
   ·omega
   ·have:=ih h; omega
 have h2 : (stmtK x.body).length≤(procK x).length:=by simp only [procK,List.length_append,List.length_cons]; omega
 have h3 : (m.procs.flatMap procK).length≤(modK m).length:=by simp only [modK,List.length_append,List.length_cons]; omega
 omega
theorem mbody_le (m:Mod) : (stmtK m.body).length≤(modK m).length:=by simp only [modK,List.length_append,List.length_cons]; omega
end Go.Mq.Used
namespace Go.Proofs.YtojkkgghndeimaaGreatDoor
open Go Go.RowKit Go.Mq Go.Mq.Tree Go.Mq.Ref Go.Mq.Used Go.Mq.Sym Go.Mq.Plan
set_option maxRecDepth 100000
set_option maxHeartbeats 8000000
theorem next_ty {r:Nat} {w w':World} {v:Value} {ty:TypeId} (h : (Instr.next (.pointer (some ⟨r,0,none⟩)) false ty).run Tryz.prog w = .ok v w') : ∀ ty',(Instr.next (.pointer (some ⟨r,0,none⟩)) false ty').run Tryz.prog w = .ok v w':=fun _=>h
theorem sorts_any (ss:List (List UInt8)) (hs : ss.length≤1000) (v:Value) (w:World) (h : w.ownsRow 0 9 1 v ss.length (ss.map str)) :
  Calls Tryz.prog 73 #[v] w (fun e w'=>e = .returned (.tuple #[])∧w'.ownsRow 0 9 1 v ss.length ((ss.mergeSort fun x y=>decide (x≤y)).map str)∧Chg (blk v) w w'):=by
 have HS:=Lib.hid (sort_own ss hs v w h)
 clear h
 go_enter Tryz.func73,Tryz.ntmps73
 go_wp2_with fail
 refine HS.out.mono ?_; rintro _ w2 ⟨rfl,ho,hc⟩
 have HO:=Lib.hid ho; have HC:=Lib.hid hc
 clear ho hc
 go_wp2_with fail
 exact bodyPost_end (results_none rfl _ _ _) rfl ⟨rfl,HO.out,HC.out⟩
theorem enters_touch (cs:Array Value) (w:World) : (callFunc 89 cs).run Tryz.prog w = .ok (.enter 89 cs) w:=by kernel_rfl
theorem rused_any (m:Mod) (hw:WFM m) (hl : (modK m).length≤900000) (hcnt : cntP m.procs + cntS m.body≤1000) (g:List UInt8) (F:Nat→Prop) (v:Value) (w:World) (hF : ∀ x,F x→x < w.heap.size) (hm:ModAt w F m v) :
  Calls Tryz.prog 30 #[v,str g] w (fun e w'=>∃ u,e = .returned u∧NamesAt w' (fun x=>w.heap.size≤x∧x < w'.heap.size) (usedL g m) u∧Chg [] w w'):=by
 have hmf : ∀ (fn:Fn) (first cap:Array Value) (w:World),(Instr.makeFunc fn first cap).run Tryz.prog w = .ok (.func fn first cap) w:=fun _ _ _ _=>rfl
 have hmm:=@run_makeMap Tryz.prog
 obtain ⟨vi,vv,vp,vb,rfl,⟨ai,ci,rfl,_⟩,⟨av,cv,rfl,_⟩,⟨ap,cp,pcs,rfl,hpc,hprow,hprs⟩,hbody⟩:=hm
 have hbody0:=hbody
 obtain ⟨ab,cb,bcs,rfl,hbc,hbrow,hbs⟩:=hbody
 have hca (w':World) (o:Obj):Chg [] w' (w'.alloc o):=(Chg.refl _ _).alloc _
 obtain ⟨wA,hwA⟩ : ∃ x,w.alloc (.cells #[str m.name,.slice ai m.imports.length ci,.slice av m.vars.length cv,.slice ap m.procs.length cp,.slice ab m.body.len cb] 31)=x:=⟨_,rfl⟩
 obtain ⟨wB,hwB⟩ : ∃ x,wA.alloc (.cells #[str g] 9)=x:=⟨_,rfl⟩
 obtain ⟨wC,hwC⟩ : ∃ x,wB.alloc (.map #[] 0)=x:=⟨_,rfl⟩
 obtain ⟨w0,hw0⟩ : ∃ x,wC.alloc (.cells #[.map (some wB.heap.size)] 114)=x:=⟨_,rfl⟩
 have cA:Chg [] w wA:=hwA ▸ hca _ _
 have cB:Chg [] wA wB:=hwB ▸ hca _ _
 have cC:Chg [] wB wC:=hwC ▸ hca _ _
 have c0:Chg [] wC w0:=hw0 ▸ hca _ _
 have bM:Blk w0 w.heap.size #[str m.name,.slice ai m.imports.length ci,.slice av m.vars.length cv,.slice ap m.procs.length cp,.slice ab m.body.len cb] 31:=(((hwA ▸ Blk.new w _ _).kept cB (by simp)).kept cC (by simp)).kept c0 (by simp)
 have bG:Blk w0 wA.heap.size #[str g] 9:=((hwB ▸ Blk.new wA _ _).kept cC (by simp)).kept c0 (by simp)
 have mM:MapIs w0 wB.heap.size (setM []):=MapIs.kept (hwC ▸ MapIs.made wB) c0 (by simp)
 have bV:Blk w0 wC.heap.size #[.map (some wB.heap.size)] 114:=hw0 ▸ Blk.new wC _ _
 have hc0:=cA.then (cB.then (cC.then c0))
 have hsz : wA.heap.size=w.heap.size + 1∧wB.heap.size=wA.heap.size + 1∧wC.heap.size=wB.heap.size + 1∧w0.heap.size=wC.heap.size + 1:=⟨by rw [← hwA]; simp,by rw [← hwB]; simp,by rw [← hwC]; simp,by rw [← hw0]; simp⟩
 have hF0 : ∀ x∈[wB.heap.size],¬ F x:=fun x hx h=>by simp at hx; subst hx; have:=hF _ h; omega
 have hZl : ∀ x∈[wB.heap.size],x < w0.heap.size:=fun x hx=>by simp at hx; omega
 have hG:=fun (x:E) (u:Value) (hx : x.isX) (_:WF x) (_ : (toks x).length≤900000) (h:EAt w0 F x [u])=>rtouch_any g w0 wA.heap.size wC.heap.size wB.heap.size (bG.cell 0 _ rfl) (bV.cell 0 _ rfl) (by omega) (by omega) F (hF0 _ (by simp)) x u hx h
 have hk : ∀ (s:List (List UInt8)) (w w':World),MapIs w wB.heap.size (setM s)→Chg [] w w'→MapIs w' wB.heap.size (setM s):=fun s w w' h hc=>h.kept hc (by simp)
 have hV:=fun (s:S) (d:Nat) (hs:WFS d s) (hl : (stmtK s).length≤900000) (v:Value) (h:SlAt w0 F s v)=>vwalk_any (fn:=89) (bd:=#[ptr wA.heap.size,ptr wC.heap.size]) (Inv:=fun l w=>MapIs w wB.heap.size (setM l)) enters_touch hk F hF0 hZl (touchE g) hG hs hl h
 have hlp : ∀ x∈m.procs,(stmtK x.body).length≤900000:=fun x hx=>by
  have h1:=body_le hx
  omega
 have hlb : (stmtK m.body).length≤900000:=by have:=mbody_le m; omega
 have hpn : m.procs.length≤10:=hw.fewp
 have HV:=Lib.hid hV
 have HPR:=Lib.hid (hprow.kept hc0 (by simp)); have HPS:=Lib.hid (hprs.kept hc0 (by simp)); have HBD:=Lib.hid (hbody0.kept hc0 (by simp))
 have HBM:=Lib.hid bM; have HBV:=Lib.hid bV; have HMM:=Lib.hid mM; have HC0:=Lib.hid hc0; have HSZ:=Lib.hid hsz; have HF0:=Lib.hid hF0; have HW:=Lib.hid hw; have HLP:=Lib.hid hlp
 clear hprow hprs hbody0 hbrow hbs cA cB cC c0 bM bG mM bV hc0 hsz hF0 hZl hG hk hV hlp hw hF hca
 go_enter Tryz.func30,Tryz.ntmps30
 obtain ⟨m0,m1,m2,m3,m4⟩:=HBM.out.five
 go_wp2_with fail
 clear hwA hwB hwC hw0 m0 m1 m2 m3 m4
 go_loopw [8,16] (fun _ i wr=>∃ (k:Nat) (l:List (List UInt8)),i=num k∧k≤m.procs.length∧Chg [wB.heap.size] w0 wr∧MapIs wr wB.heap.size (setM l)∧useP g (m.procs.drop k) l=useP g m.procs []) (fun _ i _=>m.procs.length - (intOf i).toNat)
 case atStart=>exact ⟨0,[],rfl,Nat.zero_le _,Chg.refl _ _,HMM.out,rfl⟩
 case round=>
  obtain ⟨k,l,rfl,hk,hc,hm,hu⟩:=hrel
  have HC:=Lib.hid hc; have HM:=Lib.hid hm; have HU:=Lib.hid hu
  clear hc hm hu
  by_cases hlt : k < m.procs.length
  ·obtain ⟨x,hx⟩ : ∃ x,m.procs[k]?=some x:=⟨m.procs[k],List.getElem?_eq_getElem hlt⟩
   have hmem:=List.mem_of_getElem? hx
   obtain ⟨cs1,c6,cs',hcs,h6,hpr⟩:=prs_atU HPS.out hx
   obtain ⟨_,_,_,rfl,⟨a1,k1,rfl,_⟩,⟨a2,k2,rfl,_⟩,hbx⟩:=hpr
   have hbx0:=hbx
   obtain ⟨a3,k3,bx,rfl,_,_,_⟩:=hbx
   have hrow:=HPR.out.kept HC.out HF0.out
   rw [hcs] at hrow
   obtain ⟨bb,off,rfl,d0,d1,d2,d3,d4,d5⟩:=cells6S (by simpa using hrow) h6
   have hz:=Blk.new wr #[str [],.int .i64 0,.bool false,nils,nils,nils] 87
   obtain ⟨wA,hwA⟩ : ∃ w',wr.alloc (.cells #[str [],.int .i64 0,.bool false,nils,nils,nils] 87)=w':=⟨_,rfl⟩
   rw [hwA] at hz
   have hcA:Chg [] wr wA:=by rw [← hwA]; exact (Chg.refl _ _).alloc _
   obtain ⟨wF,hwF,hcF,hbF⟩:=set6S (str x.name) (.int .i64 x.pos) (.bool x.seen) (.slice a1 x.params.length k1) (.slice a2 x.vars.length k2) (.slice a3 x.body.len k3) hz
   have hcw:Chg [] wr wF:=hcA.trans hcF (fun x hx=>.inr (by simp at hx; omega))
   have z0:=hz.cell 0 _ rfl; have z1:=hz.cell 1 _ rfl; have z2:=hz.cell 2 _ rfl; have z3:=hz.cell 3 _ rfl; have z4:=hz.cell 4 _ rfl; have z5:=hz.cell 5 _ rfl
   have y0:=hz.frozen 0; have y1:=hz.frozen 1; have y2:=hz.frozen 2; have y3:=hz.frozen 3; have y4:=hz.frozen 4; have y5:=hz.frozen 5
   have x5:=hbF.cell 5 _ rfl
   have HCALL:=Lib.hid (HV.out x.body 10 (HW.out.procs x hmem).body (HLP.out x hmem) _ hbx0 wF l (HC.out.then hcw.weak) (HM.out.kept hcw (by simp)))
   have HCF:=Lib.hid (HC.out.then hcw.weak)
   have HU2:=Lib.hid (show useP g (m.procs.drop (k + 1)) (visS (touchE g) x.body l)=useP g m.procs [] by rw [visS_use,← useP_drop g hx]; exact HU.out)
   clear hcs h6 hbx0 hrow hz hcA hcF hbF hcw hx hmem
   go_wp2_with fail
   refine HCALL.out.mono ?_; rintro _ wb ⟨rfl,hm3,hc3⟩
   have HM3:=Lib.hid hm3; have HC3:=Lib.hid (HCF.out.then hc3)
   clear hm3 hc3 d0 d1 d2 d3 d4 d5 z0 z1 z2 z3 z4 z5 y0 y1 y2 y3 y4 y5 hwA hwF x5
   go_wp2_with fail
   exact ⟨⟨k + 1,_,by go_num,by omega,HC3.out,HM3.out,HU2.out⟩,by simp [intOf]; omega⟩
  ·have HL1:=Lib.hid (show l=useP g m.procs [] by have:=HU.out; rw [List.drop_of_length_le (by omega)] at this; exact this)
   obtain ⟨b4,hb4⟩ : ∃ v,v=Value.slice ab m.body.len cb:=⟨_,rfl⟩
   have HCALL:=Lib.hid (HV.out m.body 10 HW.out.body hlb _ HBD.out wr l HC.out HM.out)
   have m4:=(HBM.out.kept HC.out (by have:=HSZ.out; simp; omega)).cell 4 _ rfl
   have HLE:=Lib.hid (show visS (touchE g) m.body l=useM g m by rw [visS_use,HL1.out]; rfl)
   rw [HLE.out] at HCALL
   clear hb4
   go_wp2_with fail
   refine HCALL.out.mono ?_; rintro _ w3 ⟨rfl,hm3,hc3⟩
   have hc03:=HC.out.then hc3
   have v0:=(HBV.out.kept hc03 (by have:=HSZ.out; simp; omega)).cell 0 _ rfl
   obtain ⟨w4,hrun,hrg,hc4,hs4⟩:=map_range (P:=Tryz.prog) Tryz.underlying114 hm3
   have hes : (setM (useM g m)).map (·.1)=useM g m:=by simp [setM,Function.comp_def]
   rw [hes] at hrg
   have HRG:=Lib.hid hrg; have HS4:=Lib.hid hs4
   have HCW:=Lib.hid (show Chg [] w w4 from (HC0.out.trans (hc03.then hc4.weak) (fun x hx=>.inr (by have:=HSZ.out; simp at hx; omega))))
   have hs3:=hc03.size
   have HS3:=Lib.hid hs3
   have HND:=Lib.hid (useM_nodup g m)
   have hul : (useM g m).length≤1000:=Nat.le_trans (useM_len g m) hcnt
   clear hm3 hc3 hc03 hrg hc4 hs4 hs3 m4
   have hbw : w3.heap.size≠wB.heap.size∧w.heap.size≤w3.heap.size∧w3.heap.size < w4.heap.size:=by have:=HSZ.out; have:=HS3.out; have:=HS4.out; omega
   have HBW:=Lib.hid hbw
   clear hbw
   go_wp2_with fail
   clear hrun v0
   go_loopw [9,10] (fun v _ wr=>∃ (ns rest:List (List UInt8)),Ranging wr wB.heap.size w3.heap.size (setM (useM g m)) rest∧(useM g m).Perm (ns ++ rest)∧wr.ownsRow 0 9 1 v ns.length (ns.map str)∧From w4.heap.size v∧Chg [] w wr∧w4.heap.size≤wr.heap.size) (fun _ _ wr=>wr.rangeLeft wB.heap.size w3.heap.size)
   case atStart=>exact ⟨[],_,HRG.out,List.Perm.refl _,World.ownsRow_nil _ _ _ _,From.nil _,HCW.out,Nat.le_refl _⟩
   case round=>
    obtain ⟨ns,rest,hri,hpm,ho,hf,hc,hsw⟩:=hrel
    have HO:=Lib.hid ho; have HFR:=Lib.hid hf; have HCR:=Lib.hid hc; have HPM:=Lib.hid hpm
    have hrd : rest.Nodup:=(List.nodup_append.1 (hpm.nodup_iff.1 HND.out)).2.1
    have hll : ns.length + rest.length≤1000:=by have:=hpm.length_eq; rw [List.length_append] at this; omega
    have hle:=hri.left_eq
    clear ho hf hc hpm
    rcases map_next (P:=Tryz.prog) hri HBW.out.1 0 with ⟨hnil,hnx⟩ | ⟨n,v,rest',wn,hn1,hn2,hn3,hn4,hn5,hnx,hri2,hcn,hent⟩
    ·have hns : ns.length≤1000:=by omega
     have HSE:=Lib.hid (show (ns.mergeSort fun x y=>decide (x≤y))=usedL g m from sort_same (by have:=HPM.out; rw [hnil,List.append_nil] at this; exact this.symm))
     have HST:=Lib.hid (sorts_any ns hns _ wr HO.out)
     have hnx':=next_ty hnx
     clear hnx hri hle
     go_wp2_with fail
     refine HST.out.mono ?_; rintro _ w6 ⟨rfl,ho6,hc6⟩
     have HO6:=Lib.hid ho6; have HC6:=Lib.hid (HCR.out.trans hc6 (fun x hx=>.inr (by have:=HFR.out x hx; have:=HBW.out; omega)))
     clear ho6 hc6 hnx'
     go_wp2_with fail
     go_ret
     refine ⟨_,rfl,?_,HC6.out⟩
     have hr6:=HO6.out
     rw [HSE.out] at hr6
     have hln : ns.length=(usedL g m).length:=by rw [← HSE.out]; exact (List.length_mergeSort _).symm
     rw [hln] at hr6
     obtain ⟨a',c',he,hc',hrow⟩:=Row.of_owns hr6 (F:=fun x=>w.heap.size≤x∧x < w6.heap.size) (fun y hy=>⟨by have:=HFR.out y hy; have:=HBW.out; omega,owns_lt hr6 y hy⟩)
     exact ⟨a',c',he,hc',hrow⟩
    ·have HRI:=Lib.hid hri2; have HN1:=Lib.hid (next_perm hrd hn1 hn4 hn5)
     have hnx':=next_ty hnx
     have HCN:=Lib.hid (HCR.out.trans hcn (fun x hx=>.inr (by simp at hx; have:=HBW.out; omega)))
     have hszn:=hcn.size
     have hon:=owns_kept HO.out hcn (fun x hx=>by have:=HFR.out x hx; have:=HBW.out; simp; omega)
     have HO2:=Lib.hid (owns_kept hon ((Chg.refl [] wn).alloc (.cells #[str n] 9)) (by simp))
     have HLE:=Lib.hid hle
     clear hnx hri hri2 hcn hon hle
     go_wp2_with (at_builtin; go_must (refine wpL_append rfl _ _ 25 rfl 9 _ 1 16 infoStr Tryz.underlying25 rfl (by decide) _ _ _ rfl HO2.out ⟨wn.heap.size,0,none⟩ 1 1 [_] rfl rfl (cell_new1 _ _ _) (by simp [Value.oneCell']) ?_ ?_ ?_))
     ·omega
     ·unfold maxLen; omega
     ·intro v' w' hown' hch' hmv'
      have HO3:=Lib.hid (show w'.ownsRow 0 9 1 v' (ns ++ [n]).length ((ns ++ [n]).map str) by simpa using hown')
      have HF3:=Lib.hid (HFR.out.moved hmv' (by simp; omega))
      have HC3:=Lib.hid ((HCN.out.alloc (.cells #[str n] 9)).trans hch' (fun x hx=>.inr (by have:=HFR.out x hx; have:=HBW.out; omega)))
      have HR3:=Lib.hid ((HRI.out.kept ((Chg.refl [] wn).alloc (.cells #[str n] 9)) (by simp) (by simp)).kept hch' (fun h=>by have:=HFR.out _ h; have:=HBW.out; have:=HSZ.out; have:=HS3.out; omega) (fun h=>by have:=HFR.out _ h; have:=HBW.out; omega))
      have hs3 : w4.heap.size≤w'.heap.size:=by have:=hch'.size; simp at this; omega
      have HP3:=Lib.hid (show (useM g m).Perm ((ns ++ [n]) ++ rest') by
       refine HPM.out.trans ?_
       rw [List.append_assoc]
       exact List.Perm.append_left ns HN1.out)
      clear hown' hch' hmv' hnx' hent
      go_wp2_with fail
      go_roundw
      case rel=>exact ⟨ns ++ [n],rest',HR3.out,HP3.out,HO3.out,HF3.out,HC3.out,hs3⟩
      case measure=>rw [HR3.out.left_eq,HLE.out]; exact hn5
end Go.Proofs.YtojkkgghndeimaaGreatDoor
namespace Go.Mq.Sym
open Go Go.RowKit Go.Mq Go.Mq.Tree Go.Mq.Ref
theorem lt_names : ∀ a b:List UInt8,decide (a < b)=decide (Lib.compareBytes a b < 0)
 | [],[]=>by simp [Lib.compareBytes]
 | [],_ :: _=>by simp [Lib.compareBytes]
 | _ :: _,[]=>by simp [Lib.compareBytes]
 | c :: a,d :: b=>by
  have ih:=lt_names a b
  simp only [Lib.compareBytes,List.cons_lt_cons_iff]
  by_cases h1 : c < d
  ·simp [h1]
  ·by_cases h2 : d < c
   ·have : c≠d:=fun e=>h1 (e ▸ h2)
    simp [h1,h2,this]
   ·have : c=d:=by
     apply UInt8.toNat_inj.1
     have h1' : ¬ c.toNat < d.toNat:=h1
     have h2' : ¬ d.toNat < c.toNat:=h2
     omega
    subst this
    simp only [h1,if_false]
    simpa using ih
end Go.Mq.Sym
namespace Go.Proofs.YtojkkgghndeimaaGreatDoor
open Go Go.RowKit Go.Mq Go.Mq.Tree Go.Mq.Ref Go.Mq.Sym
set_option maxRecDepth 100000
set_option maxHeartbeats 2000000
theorem rless_any (g bl c:Nat) (l:List Sy) (hl : l.length≤20) (i k:Nat) (x y:Sy) (hx : l[i]?=some x) (hy : l[k]?=some y) (w:World) (h:SyBlk w g l) (hv : w.cell? ⟨bl,0,none⟩=some (.slice (some ⟨g,0,none⟩) l.length c)) :
  Calls Tryz.prog 56 #[num i,num k,ptr bl] w (fun e w'=>e = .returned (.bool (ltS x y))∧Chg [] w w'):=by
 have hi:=(List.getElem?_eq_some_iff.1 hx).1; have hk:=(List.getElem?_eq_some_iff.1 hy).1
 obtain ⟨x0,x1,x2⟩:=h.cells hx
 obtain ⟨y0,y1,y2⟩:=h.cells hy
 have HR:=Lib.hid (show ltS x y=Op.bytesLess x.name y.name by rw [Proofs.bytesLess_eq]; exact (lt_names x.name y.name).symm)
 clear h hx hy
 go_enter Tryz.func56,Tryz.ntmps56
 go_wp2_with fail
 go_region
 all_goals (try go_wp2_with fail)
 all_goals
  go_ret
  exact ⟨by rw [HR.out]; rfl,(Chg.refl _ _).drew⟩
def SwapsAt (sf:Nat) (h:Value) (g n c:Nat):Prop:=∀ (w:World) (l:List Sy),SyBlk w g l→l.length=n → ∀ (i j:Nat) (x y:Sy),l[i]?=some x→l[j]?=some y →
 ∃ w',(callFunc sf #[num i,num j,.slice (some ⟨g,0,none⟩) n c,h]).run Tryz.prog w = .ok (.value (.tuple #[])) w'∧SyBlk w' g ((l.set i y).set j x)∧Chg [g] w w'
theorem rinsert_any (sf:Nat) (hd:Value) (g bl c:Nat) (l:List Sy) (hl : l.length≤20) (hsw:SwapsAt sf hd g l.length c) (w:World) (h:SyBlk w g l) (hv : w.cell? ⟨bl,0,none⟩=some (.slice (some ⟨g,0,none⟩) l.length c)) (hne : bl≠g) :
  Calls Tryz.prog 160 #[.agg #[.func (.func 56) #[] #[ptr bl],.func (.func sf) #[] #[.slice (some ⟨g,0,none⟩) l.length c,hd]],num 0,num l.length] w (fun e w'=>e = .returned (.tuple #[])∧SyBlk w' g (insSort l)∧Chg [g] w w'):=by
 have hlt:=h.lt
 obtain ⟨w0,hw0⟩ : ∃ x,w.alloc (.cells #[.func (.func 56) #[] #[ptr bl],.func (.func sf) #[] #[.slice (some ⟨g,0,none⟩) l.length c,hd]] 185)=x:=⟨_,rfl⟩
 have hc0:Chg [] w w0:=hw0 ▸ (Chg.refl _ _).alloc _
 have hb0:Blk w0 w.heap.size #[.func (.func 56) #[] #[ptr bl],.func (.func sf) #[] #[.slice (some ⟨g,0,none⟩) l.length c,hd]] 185:=hw0 ▸ Blk.new w _ _
 have hdg : w.heap.size≠g:=by omega
 have hblt : bl < w.heap.size:=lt_of_cell hv
 have H:=Lib.hid (h.kept hc0 (by simp)); have HB:=Lib.hid hb0; have HC0:=Lib.hid hc0; have HV:=Lib.hid (hc0.cellSome hv (by simp)); have HSW:=Lib.hid hsw
 clear h hc0 hb0 hv hsw
 go_enter Tryz.func160,Tryz.ntmps160
 go_wp2_with fail
 clear hw0
 go_loopw [6,7] (fun i _ wr=>∃ (n:Nat) (l1:List Sy),i=num n∧1≤n∧n≤21∧SyBlk wr g l1∧l1.length=l.length∧sortFrom n l.length l1=insSort l∧Chg [g] w0 wr) (fun i _ _=>21 - (intOf i).toNat)
 case atStart=>exact ⟨1,l,rfl,by omega,by omega,H.out,rfl,rfl,Chg.refl _ _⟩
 case round=>
  obtain ⟨n,l1,rfl,hn1,hn2,hb,hll,hs,hc⟩:=hrel
  have HBL:=Lib.hid hb; have HS:=Lib.hid hs; have HC:=Lib.hid hc
  clear hb hs hc
  by_cases hlt2 : n < l.length
  ·go_wp2_with fail
   go_loopw [7] (fun j ws=>∃ (k:Nat) (l2:List Sy),j=num k∧k≤n∧SyBlk ws g l2∧l2.length=l.length∧sinkS k l2=sinkS n l1∧Chg [g] w0 ws) (fun j _=>(intOf j).toNat)
   case atStart=>exact ⟨n,l1,rfl,Nat.le_refl _,HBL.out,hll,rfl,HC.out⟩
   case round=>
    obtain ⟨k,l2,rfl,hkn,hb,hl2,hs,hc⟩:=hrel
    have HB2:=Lib.hid hb; have HS2:=Lib.hid hs; have HC2:=Lib.hid hc
    clear hb hs hc
    have q0:=HC2.out.cellSome (HB.out.cell 0 _ rfl) (by simpa using hdg)
    by_cases hk0 : 0 < k
    ·obtain ⟨k,rfl⟩ : ∃ k',k=k' + 1:=⟨k - 1,by omega⟩
     obtain ⟨x,hx⟩ : ∃ x,l2[k + 1]?=some x:=⟨l2[k + 1]'(by omega),List.getElem?_eq_getElem (by omega)⟩
     obtain ⟨y,hy⟩ : ∃ y,l2[k]?=some y:=⟨l2[k]'(by omega),List.getElem?_eq_getElem (by omega)⟩
     have hL:=rless_any g bl c l2 (by omega) (k + 1) k x y hx hy wr HB2.out (by rw [hl2]; exact HC2.out.cellSome HV.out (by simpa using hne))
     have HX:=Lib.hid hx; have HY:=Lib.hid hy; have HL:=Lib.hid hL
     have hsub:IntKind.i64.wrap (((k + 1:Nat):Int) - 1)=(k:Int):=by
      simp only [IntKind.wrap,IntKind.bits,IntKind.signed]; simp; omega
     have hgt : decide ((0:Int) < ((k + 1:Nat):Int))=true:=by simp <;> omega
     clear hx hy hL
     go_wp2_with fail
     refine HL.out.mono ?_; rintro _ wk ⟨rfl,hck⟩
     have HBk:=Lib.hid (HB2.out.kept hck (by simp))
     have HCk:=Lib.hid (HC2.out.then hck.weak)
     obtain ⟨wz,hsz0,hbz,hcz⟩:=HSW.out wk l2 HBk.out hl2 (k + 1) k x y HX.out HY.out
     have hsz : (callFunc sf #[num ((k:Int) + 1),num k,.slice (some ⟨g,0,none⟩) l.length c,hd]).run Tryz.prog wk = .ok (.value (.tuple #[])) wz:=hsz0
     clear hsz0
     clear q0 hck
     have q1:=HCk.out.cellSome (HB.out.cell 1 _ rfl) (by simpa using hdg)
     cases hlz : ltS x y with
     | true=>
      have HSK:=Lib.hid (show sinkS (k + 1) l2=sinkS k ((l2.set (k + 1) y).set k x) by
       have e1 : l2.getD (k + 1) Sy.none=x:=by rw [List.getD_eq_getElem?_getD,HX.out]; rfl
       have e2 : l2.getD k Sy.none=y:=by rw [List.getD_eq_getElem?_getD,HY.out]; rfl
       rw [sinkS,e1,e2,if_pos hlz])
      have HBZ:=Lib.hid hbz; have HCZ:=Lib.hid (HCk.out.then hcz)
      clear hbz hcz
      go_wp2_with fail
      go_roundw
      case rel=>exact ⟨k,(l2.set (k + 1) y).set k x,by go_num,by omega,HBZ.out,by simp; omega,by rw [← HSK.out,HS2.out],HCZ.out⟩
      case measure=>simp [intOf]
     | false=>
      have HSK:=Lib.hid (show sinkS (k + 1) l2=l2 by
       have e1 : l2.getD (k + 1) Sy.none=x:=by rw [List.getD_eq_getElem?_getD,HX.out]; rfl
       have e2 : l2.getD k Sy.none=y:=by rw [List.getD_eq_getElem?_getD,HY.out]; rfl
       rw [sinkS,e1,e2,if_neg (by simp [hlz])])
      clear hbz hcz hsz
      go_wp2_with fail
      go_roundw
      case rel=>
       refine ⟨n + 1,l2,by go_num,by omega,by omega,HBk.out,hl2,?_,HCk.out⟩
       rw [← HSK.out,HS2.out,← sortFrom_step hlt2,HS.out]
      case measure=>simp [intOf]; omega
    ·have hk00 : k=0:=by omega
     subst hk00
     go_wp2_with fail
     go_roundw
     case rel=>
      refine ⟨n + 1,l2,by go_num,by omega,by omega,HB2.out,hl2,?_,HC2.out⟩
      have e:=HS2.out
      rw [sinkS] at e
      rw [e,← sortFrom_step hlt2,HS.out]
     case measure=>simp [intOf]; omega
  ·go_wp2_with fail
   refine bodyPost_end (results_none rfl _ _ _) rfl ⟨rfl,?_,HC0.out.weak.then HC.out⟩
   have e:=HS.out
   rw [sortFrom_end (by omega)] at e
   rw [← e]
   exact HBL.out
end Go.Proofs.YtojkkgghndeimaaGreatDoor
namespace Go.Proofs.YtojkkgghndeimaaGreatDoor
open Go Go.RowKit Go.Mq Go.Mq.Tree Go.Mq.Ref Go.Mq.Sym
set_option maxRecDepth 100000
set_option maxHeartbeats 2000000
theorem swaps_at (g n c:Nat):SwapsAt 159 (typeHandle Tryz.prog 106) g n c:=by
 intro w l h hl i j x y hx hy
 have hi:=(List.getElem?_eq_some_iff.1 hx).1; have hj:=(List.getElem?_eq_some_iff.1 hy).1
 obtain ⟨x0,x1,x2⟩:=h.cells hx
 obtain ⟨y0,y1,y2⟩:=h.cells hy
 obtain ⟨ie,hie⟩ : ∃ ie,Tryz.prog.info? 106=some ie:=⟨_,rfl⟩
 have hs : ie.size=3:=by
  have : (Tryz.prog.info? 106).map (fun i=>i.size)=some 3:=by kernel_rfl
  rw [hie] at this
  exact Option.some.inj this
 have hcall:=run_callFunc_extern (P:=Tryz.prog) Tryz.func159 (by kernel_rfl) (by kernel_rfl) (by kernel_rfl) (e:=Extern.ReflectliteSwapper.swap false) (by kernel_rfl) #[num i,num j,.slice (some ⟨g,0,none⟩) n c,typeHandle Tryz.prog 106] w
 have hrun:=Lib.run_swap_cells (P:=Tryz.prog) false 106 ie hie (fun w=>by kernel_rfl) g 0 n c i j (by omega) (by omega) [str x.name,num x.len,num x.args] [str y.name,num y.len,num y.args] (by rw [hs]; rfl) (by rw [hs]; rfl) (by simp [Value.oneCell']) (by simp [Value.oneCell']) w
  (fun k v hk=>by
   rw [hs,Nat.zero_add]
   have : k < 3:=by simpa using (List.getElem?_eq_some_iff.1 hk).1
   obtain rfl | rfl | rfl : k=0∨k=1∨k=2:=by omega
   ·cases hk; exact x0
   ·cases hk; exact x1
   ·cases hk; exact x2)
  (fun k v hk=>by
   rw [hs,Nat.zero_add]
   have : k < 3:=by simpa using (List.getElem?_eq_some_iff.1 hk).1
   obtain rfl | rfl | rfl : k=0∨k=1∨k=2:=by omega
   ·cases hk; exact y0
   ·cases hk; exact y1
   ·cases hk; exact y2)
  (fun k _=>h.frozen _) (fun k _=>h.frozen _)
 rw [hrun] at hcall
 rw [hs] at hcall
 obtain ⟨hp,hc⟩:=h.swap i j hi hj y x
 refine ⟨_,hcall,?_,?_⟩
 ·simpa [World.setCells] using hp
 ·simpa [World.setCells] using hc
theorem rinsert_few (u v:Value) (m n:Nat) (hm : m≤20) (hn : n≤m + 1) (w:World) :
  Calls Tryz.prog 160 #[.agg #[u,v],num m,num n] w (fun e w'=>e = .returned (.tuple #[])∧Chg [] w w'):=by
 have hc0:=Lib.hid ((Chg.refl [] w).alloc (.cells #[u,v] 185))
 go_enter Tryz.func160,Tryz.ntmps160
 go_wp2_with fail
 obtain ⟨w0,hw0⟩ : ∃ x,w.alloc (.cells #[u,v] 185)=x:=⟨_,rfl⟩
 rw [hw0] at hc0 ⊢
 go_loopw [6,7] (fun i _ wr=>i=num ((m:Int) + 1)∧wr=w0) (fun _ _ _=>0)
 case atStart=>exact ⟨rfl,rfl⟩
 case round=>
  obtain ⟨rfl,rfl⟩:=hrel
  have hd : decide ((m:Int) + 1 < (n:Int))=false:=by simp; omega
  go_wp2_with fail
  exact bodyPost_end (results_none rfl _ _ _) rfl ⟨rfl,hc0.out⟩
abbrev lessV (bl:Nat):Value:=.func (.func 56) #[] #[ptr bl]
noncomputable abbrev swapV (g n c:Nat):Value:=.func (.func 159) #[] #[.slice (some ⟨g,0,none⟩) n c,typeHandle Tryz.prog 106]
theorem rstable_any (g bl c:Nat) (l:List Sy) (hl : l.length≤20) (w:World) (h:SyBlk w g l) (hv : w.cell? ⟨bl,0,none⟩=some (.slice (some ⟨g,0,none⟩) l.length c)) (hne : bl≠g) :
  Calls Tryz.prog 111 #[.agg #[lessV bl,swapV g l.length c],num l.length] w (fun e w'=>e = .returned (.tuple #[])∧SyBlk w' g (insSort l)∧Chg [g] w w'):=by
 obtain ⟨sv,hsv⟩ : ∃ x,x=swapV g l.length c:=⟨_,rfl⟩
 obtain ⟨lv,hlv⟩ : ∃ x,x=lessV bl:=⟨_,rfl⟩
 have HI:=Lib.hid (show ∀ w',Chg [] w w'→Calls Tryz.prog 160 #[.agg #[lv,sv],num 0,num l.length] w' (fun e w2=>e = .returned (.tuple #[])∧SyBlk w2 g (insSort l)∧Chg [g] w' w2) from fun w' hc=>by
  rw [hsv,hlv]; exact rinsert_any _ _ g bl c l hl (swaps_at g l.length c) w' (h.kept hc (by simp)) (hc.cellSome hv (by simp)) hne)
 have hlt:=h.lt
 rw [← hlv,← hsv]
 obtain ⟨w0,hw0⟩ : ∃ x,w.alloc (.cells #[lv,sv] 185)=x:=⟨_,rfl⟩
 have hc0:Chg [] w w0:=hw0 ▸ (Chg.refl _ _).alloc _
 have hb0:Blk w0 w.heap.size #[lv,sv] 185:=hw0 ▸ Blk.new w _ _
 have hdg : w.heap.size≠g:=by omega
 have HB:=Lib.hid hb0; have HC0:=Lib.hid hc0
 have HI0:=Lib.hid (HI.out w0 hc0)
 clear h hv hsv hlv hc0 hb0 HI
 by_cases h20 : l.length=20
 ·rw [h20] at HI0 ⊢
  change Calls _ _ #[_,.int .i64 (20:Int)] _ _
  have q0:=HB.out.cell 0 _ rfl; have q1:=HB.out.cell 1 _ rfl
  go_enter Tryz.func111,Tryz.ntmps111
  go_wp2_with fail
  clear hw0
  go_loopw [5,6] (fun a b wr=>∃ q m:Nat,q≤20∧a=num q∧b=num m∧m=q + 20∧(q=0∨q=20)∧(q=0→w0=wr)∧(q=20→SyBlk wr g (insSort l)∧Chg [g] w0 wr)) (fun _ b _=>40 - (intOf b).toNat)
  case atStart=>exact ⟨0,20,by omega,rfl,rfl,rfl,.inl rfl,fun _=>rfl,fun h=>by omega⟩
  case round=>
   obtain ⟨q,m,_,rfl,rfl,rfl,hq,hq0,hq1⟩:=hrel
   rcases hq with rfl | rfl
   ·have hw0:=hq0 rfl
    subst hw0
    clear hq0 hq1
    go_wp2_with fail
    refine HI0.out.mono ?_; rintro _ w1 ⟨rfl,hb,hc⟩
    have HBl:=Lib.hid hb; have HC:=Lib.hid hc
    clear hb hc
    go_wp2_with fail
    exact ⟨⟨20,40,by omega,by go_num,by go_num,rfl,.inr rfl,fun h=>by omega,fun _=>⟨HBl.out,HC.out⟩⟩,by simp [intOf]⟩
   ·obtain ⟨hb,hc⟩:=hq1 rfl
    have HBl:=Lib.hid hb; have HC:=Lib.hid hc
    clear hb hc hq0 hq1 q0 q1
    have q0:=HC.out.cellSome (HB.out.cell 0 _ rfl) (by simpa using hdg); have q1:=HC.out.cellSome (HB.out.cell 1 _ rfl) (by simpa using hdg)
    have HN:=Lib.hid (rinsert_few lv sv 20 20 (by omega) (by omega) wr)
    go_wp2_with fail
    refine HN.out.mono ?_; rintro _ w2 ⟨rfl,hc2⟩
    have HBl2:=Lib.hid (HBl.out.kept hc2 (by simp)); have HC2:=Lib.hid (HC.out.then hc2.weak)
    clear hc2
    go_wp2_with fail
    go_loopw [4,5,6,7] (fun s _ _ _ ws=>s=num 20∧w2=ws) (fun _ _ _ _ _=>0)
    case atStart=>exact ⟨rfl,rfl⟩
    case round=>
     obtain ⟨rfl,rfl⟩:=hrel
     go_wp2_with fail
     exact bodyPost_end (results_none rfl _ _ _) rfl ⟨rfl,HBl2.out,HC0.out.weak.then HC2.out⟩
 ·have q0:=HB.out.cell 0 _ rfl; have q1:=HB.out.cell 1 _ rfl
  go_enter Tryz.func111,Tryz.ntmps111
  go_wp2_with fail
  clear hw0
  go_loopw [5,6] (fun a b wr=>a=num 0∧b=num 20∧w0=wr) (fun _ b _=>40 - (intOf b).toNat)
  case atStart=>exact ⟨rfl,rfl,rfl⟩
  case round=>
   obtain ⟨rfl,rfl,rfl⟩:=hrel
   have hlt : ¬ 20≤l.length:=by omega
   go_wp2_with fail
   refine HI0.out.mono ?_; rintro _ w1 ⟨rfl,hb,hc⟩
   have HBl:=Lib.hid hb; have HC:=Lib.hid hc
   clear hb hc
   go_wp2_with fail
   go_loopw [4,5,6,7] (fun s _ _ _ ws=>s=num 20∧w1=ws) (fun _ _ _ _ _=>0)
   case atStart=>exact ⟨rfl,rfl⟩
   case round=>
    obtain ⟨rfl,rfl⟩:=hrel
    have hlt2 : ¬ 20 < l.length:=by omega
    go_wp2_with fail
    exact bodyPost_end (results_none rfl _ _ _) rfl ⟨rfl,HBl.out,HC0.out.weak.then HC.out⟩
theorem rstable_few (u v:Value) (n:Nat) (hn : n≤1) (w:World):Calls Tryz.prog 111 #[.agg #[u,v],num n] w (fun e w'=>e = .returned (.tuple #[])∧Chg [] w w'):=by
 obtain ⟨w0,hw0⟩ : ∃ x,w.alloc (.cells #[u,v] 185)=x:=⟨_,rfl⟩
 have hc0:Chg [] w w0:=hw0 ▸ (Chg.refl _ _).alloc _
 have hb0:Blk w0 w.heap.size #[u,v] 185:=hw0 ▸ Blk.new w _ _
 have HC0:=Lib.hid hc0
 have q0:=hb0.cell 0 _ rfl; have q1:=hb0.cell 1 _ rfl
 have HI:=Lib.hid (rinsert_few u v 0 n (by omega) (by omega) w0)
 clear hc0 hb0
 go_enter Tryz.func111,Tryz.ntmps111
 go_wp2_with fail
 clear hw0
 go_loopw [5,6] (fun a b wr=>a=num 0∧b=num 20∧w0=wr) (fun _ b _=>40 - (intOf b).toNat)
 case atStart=>exact ⟨rfl,rfl,rfl⟩
 case round=>
  obtain ⟨rfl,rfl,rfl⟩:=hrel
  have hlt : ¬ 20≤n:=by omega
  go_wp2_with fail
  refine HI.out.mono ?_; rintro _ w1 ⟨rfl,hc⟩
  have HC:=Lib.hid hc
  clear hc
  go_wp2_with fail
  go_loopw [4,5,6,7] (fun s _ _ _ ws=>s=num 20∧w1=ws) (fun _ _ _ _ _=>0)
  case atStart=>exact ⟨rfl,rfl⟩
  case round=>
   obtain ⟨rfl,rfl⟩:=hrel
   have hlt2 : ¬ 20 < n:=by omega
   go_wp2_with fail
   exact bodyPost_end (results_none rfl _ _ _) rfl ⟨rfl,HC0.out.then HC.out⟩
end Go.Proofs.YtojkkgghndeimaaGreatDoor
namespace Go.Proofs.YtojkkgghndeimaaGreatDoor
open Go Go.RowKit Go.Mq Go.Mq.Tree Go.Mq.Ref Go.Mq.Sym
set_option maxRecDepth 100000
set_option maxHeartbeats 2000000
theorem kind_sym (w:World) : (Extern.Rtype.kind 106).run Tryz.prog w = .ok 25 w:=by kernel_rfl
theorem slice_info : ∃ i,Tryz.prog.info? 45=some i∧i.desc = .slice 106:=by
 have h : (Tryz.prog.info? 45).map (fun i=>match i.desc with | .slice e=>some e | _=>none)=some (some 106):=by kernel_rfl
 cases hi:Tryz.prog.info? 45 with
 | none=>rw [hi] at h; cases h
 | some i=>
  refine ⟨i,rfl,?_⟩
  rw [hi] at h
  simp only [Option.map_some,Option.some.injEq] at h
  split at h
  ·next e he=>rw [he]; cases h; rfl
  ·cases h
abbrev thS:Value:=.pointer (some ⟨13,45,none⟩)
theorem th_is : typeHandle Tryz.prog 45=thS:=by kernel_rfl
theorem run_valueOf (p:Option Addr) (n c:Nat) (w:World) : (callFunc 109 #[.iface 45 (.slice p n c)]).run Tryz.prog w = .ok (.value (.agg #[thS,.pointer (some ⟨w.heap.size,0,none⟩),.int .u64 151])) (w.alloc (.cells #[.slice p n c] 45)):=by
 obtain ⟨i,hi,hd⟩:=slice_info
 rw [run_callFunc_extern (P:=Tryz.prog) Tryz.func109 (by kernel_rfl) (by kernel_rfl) (by kernel_rfl) (e:=fun args=>Extern.ReflectliteValue.unpack (args.getD 0 (.tuple #[]))) (by kernel_rfl),
  show Sem.run Tryz.prog ((fun args:Array Value=>Extern.ReflectliteValue.unpack (args.getD 0 (.tuple #[]))) #[.iface 45 (.slice p n c)]) w=_ from Lib.run_valueOf_slice 45 106 i hi hd p n c w,th_is]
 rfl
theorem run_len (p:Option Addr) (n c:Nat) (a:Addr) (w:World) (ha : w.cell? a=some (.slice p n c)) : (callFunc 112 #[.agg #[thS,.pointer (some a),.int .u64 151]]).run Tryz.prog w = .ok (.value (num n)) w:=by
 obtain ⟨i,hi,hd⟩:=slice_info
 have h:=Lib.run_valueLen_slice (P:=Tryz.prog) 45 106 i hi hd (by kernel_rfl) a p n c w ha
 rw [th_is] at h
 rw [run_callFunc_extern (P:=Tryz.prog) Tryz.func112 (by kernel_rfl) (by kernel_rfl) (by kernel_rfl) (e:=Extern.ReflectliteValue.method (Extern.ReflectliteValue.valueError "reflectlite.Value.Len" 0) Extern.ReflectliteValue.len) (by kernel_rfl),h]
 rfl
theorem run_swapper (p:Option Addr) (n c:Nat) (w:World) : ∃ v,(callFunc 110 #[.iface 45 (.slice p n c)]).run Tryz.prog w = .ok (.value (.func (.func v.1) #[] v.2)) w∧(2≤n→v=(159,#[.slice p n c,typeHandle Tryz.prog 106])):=by
 obtain ⟨i,hi,hd⟩:=slice_info
 obtain ⟨ie,hie⟩ : ∃ ie,Tryz.prog.info? 106=some ie:=⟨_,rfl⟩
 have hp : ie.hasPointers=true∧ie.bytes=32:=by
  have : (Tryz.prog.info? 106).map (fun i=>(i.hasPointers,i.bytes))=some (true,32):=by kernel_rfl
  rw [hie] at this
  have:=Option.some.inj this
  exact ⟨congrArg Prod.fst this,congrArg Prod.snd this⟩
 have key : ∀ f,Tryz.prog.funcs.findIdx? (·.name == "internal/reflectlite" ++ ".Swapper$" ++ toString (Lib.swapperK n ie 25))=some f →
   (callFunc 110 #[.iface 45 (.slice p n c)]).run Tryz.prog w = .ok (.value (.func (.func f) #[] (if Lib.swapperK n ie 25≤2 then #[] else #[.slice p n c,typeHandle Tryz.prog 106]))) w:=fun f hf=>by
  rw [run_callFunc_extern (P:=Tryz.prog) Tryz.func110 (by kernel_rfl) (by kernel_rfl) (by kernel_rfl) (e:=Extern.ReflectliteSwapper.swapper "internal/reflectlite" (Extern.ReflectliteValue.valueError "Swapper")) (by kernel_rfl),
   Lib.run_swapper_slice 45 106 i ie hi hd hie 25 kind_sym p n c f hf w]
  rfl
 by_cases h0 : n=0
 ·have e:Lib.swapperK n ie 25=1:=by simp [Lib.swapperK,h0]
  rw [e] at key
  exact ⟨(151,#[]),key _ (by kernel_rfl),fun h=>by omega⟩
 by_cases h1 : n=1
 ·have e:Lib.swapperK n ie 25=2:=by simp [Lib.swapperK,h1]
  rw [e] at key
  exact ⟨(152,#[]),key _ (by kernel_rfl),fun h=>by omega⟩
 ·have e:Lib.swapperK n ie 25=9:=by simp [Lib.swapperK,h0,h1,hp.1,hp.2]
  rw [e] at key
  exact ⟨(159,_),key _ (by kernel_rfl),fun _=>rfl⟩
theorem rslice_run (p:Option Addr) (n c bl:Nat) (R:World→World→Prop) (w:World)
  (hS : ∀ v:Nat × Array Value,(2≤n→v=(159,#[.slice p n c,typeHandle Tryz.prog 106])) → ∀ w',Chg [] w w'→Calls Tryz.prog 111 #[.agg #[lessV bl,.func (.func v.1) #[] v.2],num n] w' (fun e w2=>e = .returned (.tuple #[])∧R w' w2)) :
  Calls Tryz.prog 55 #[.iface 45 (.slice p n c),lessV bl] w (fun e w'=>e = .returned (.tuple #[]) ∧ ∃ w1,Chg [] w w1∧R w1 w'):=by
 obtain ⟨w1,hw1⟩ : ∃ x,w.alloc (.cells #[.slice p n c] 45)=x:=⟨_,rfl⟩
 have hc1:Chg [] w w1:=hw1 ▸ (Chg.refl _ _).alloc _
 have hb1:Blk w1 w.heap.size #[.slice p n c] 45:=hw1 ▸ Blk.new w _ _
 have hv:=run_valueOf p n c w
 rw [hw1] at hv
 obtain ⟨w2,hw2⟩ : ∃ x,w1.alloc (.cells #[thS,.pointer (some ⟨w.heap.size,0,none⟩),.int .u64 151] 179)=x:=⟨_,rfl⟩
 have hc2:Chg [] w1 w2:=hw2 ▸ (Chg.refl _ _).alloc _
 have hb2:Blk w2 w1.heap.size #[thS,.pointer (some ⟨w.heap.size,0,none⟩),.int .u64 151] 179:=hw2 ▸ Blk.new w1 _ _
 obtain ⟨v,hsp,h9⟩:=run_swapper p n c w2
 have hl:=run_len p n c ⟨w.heap.size,0,none⟩ w2 (hc2.cellSome (hb1.cell 0 _ rfl) (by simp))
 have HS:=Lib.hid (hS v h9 w2 (hc1.then hc2))
 have HC:=Lib.hid (hc1.then hc2)
 obtain ⟨q0,q1,q2⟩:=hb2.three
 obtain ⟨f1,f2⟩:=v
 dsimp only at hsp HS
 clear hw1 hS h9 hb1 hb2 hc1 hc2
 go_enter Tryz.func55,Tryz.ntmps55
 go_wp2_with fail
 refine HS.out.mono ?_; rintro _ w3 ⟨rfl,hr⟩
 have HR:=Lib.hid hr; clear hr
 go_wp2_with fail
 exact bodyPost_end (results_none rfl _ _ _) rfl ⟨rfl,w2,HC.out,HR.out⟩
theorem rslice_any (g bl c:Nat) (l:List Sy) (hl : l.length≤20) (w:World) (h:SyBlk w g l) (hv : w.cell? ⟨bl,0,none⟩=some (.slice (some ⟨g,0,none⟩) l.length c)) (hne : bl≠g) :
  Calls Tryz.prog 55 #[.iface 45 (.slice (some ⟨g,0,none⟩) l.length c),lessV bl] w (fun e w'=>e = .returned (.tuple #[])∧SyBlk w' g (insSort l)∧Chg [g] w w'):=by
 by_cases h2 : 2≤l.length
 ·refine (rslice_run (some ⟨g,0,none⟩) l.length c bl (fun w1 w'=>SyBlk w' g (insSort l)∧Chg [g] w1 w') w ?_).mono ?_
  ·intro v hv9 w' hc
   rw [hv9 h2]
   exact rstable_any g bl c l hl w' (h.kept hc (by simp)) (hc.cellSome hv (by simp)) hne
  ·rintro _ w' ⟨rfl,w1,hc,hb,hc2⟩
   exact ⟨rfl,hb,hc.weak.then hc2⟩
 ·refine (rslice_run (some ⟨g,0,none⟩) l.length c bl (fun w1 w'=>Chg [] w1 w') w ?_).mono ?_
  ·intro v hv9 w' hc
   exact rstable_few _ _ l.length (by omega) w'
  ·rintro _ w' ⟨rfl,w1,hc,hc2⟩
   have e : insSort l=l:=by
    cases l with
    | nil=>rfl
    | cons x r=>cases r with
     | nil=>rfl
     | cons y r=>simp at h2
   rw [e]
   exact ⟨rfl,h.kept (hc.then hc2) (by simp),(hc.then hc2).weak⟩
theorem rslice_nil (bl:Nat) (w:World):Calls Tryz.prog 55 #[.iface 45 nils,lessV bl] w (fun e w'=>e = .returned (.tuple #[])∧Chg [] w w'):=by
 refine (rslice_run none 0 0 bl (fun w1 w'=>Chg [] w1 w') w ?_).mono ?_
 ·intro v hv9 w' hc
  exact rstable_few _ _ 0 (by omega) w'
 ·rintro _ w' ⟨rfl,w1,hc,hc2⟩
  exact ⟨rfl,hc.then hc2⟩
end Go.Proofs.YtojkkgghndeimaaGreatDoor
namespace Go.Mq.Sym
open Go Go.RowKit Go.Mq Go.Mq.Tree
structure LB (w0:World) (bl:Nat) (wr:World) (L:List Sy) (a:Option Addr) (c:Nat):Prop where
 box:Blk wr bl #[.slice a L.length c] 45
 own : wr.ownsRow 0 106 3 (.slice a L.length c) L.length (L.flatMap Sy.cells)
 from_:From w0.heap.size (.slice a L.length c)
 chg:Chg [bl] w0 wr
variable {w0 w w':World} {bl c:Nat} {L:List Sy} {a:Option Addr}
theorem LB.kept (h:LB w0 bl w L a c) (hc:Chg [] w w'):LB w0 bl w' L a c:=⟨h.box.kept hc (by simp),owns_kept h.own hc (by simp),h.from_,h.chg.then hc.weak⟩
theorem LB.not_in (h:LB w0 bl w L a c) (hb : bl < w0.heap.size) : bl∉blk (.slice a L.length c):=fun hm=>by have:=h.from_ bl hm; omega
theorem LB.snoc {v':Value} {x:Sy} (h:LB w0 bl w L a c) (hb : bl < w0.heap.size) (hown : w'.ownsRow 0 106 3 v' (L.length + 1) (L.flatMap Sy.cells ++ x.cells)) (hch:Chg (blk (.slice a L.length c)) w w') (hmv:Moved w (.slice a L.length c) v') (hw : w0.heap.size≤w.heap.size) :
  ∃ a' c',v' = .slice a' (L.length + 1) c'∧Blk w' bl #[.slice a L.length c] 45∧LB w0 bl (w'.setCell ⟨bl,0,none⟩ v') (L ++ [x]) a' c':=by
 obtain ⟨a',c',rfl⟩:=slice_of_owns hown
 have hbx:=h.box.kept hch (h.not_in hb)
 have hf:=h.from_.moved hmv hw
 refine ⟨a',c',rfl,hbx,?_⟩
 have hl : (L ++ [x]).length=L.length + 1:=by simp
 have hset:Chg [bl] w' (w'.setCell ⟨bl,0,none⟩ (.slice a' (L.length + 1) c')):=Chg.set1 _ _ _ _
 refine ⟨by rw [hl]; have:=hbx.set 0 (.slice a' (L.length + 1) c'); simpa using this,?_,by rw [hl]; exact hf,(h.chg.trans hch (fun y hy=>.inr (h.from_ y hy))).then hset⟩
 rw [hl]
 have:=owns_kept hown hset (fun g hg hm=>by have:=hf g hg; simp at hm; omega)
 simpa [List.flatMap_append] using this
end Go.Mq.Sym
namespace Go.Proofs.YtojkkgghndeimaaGreatDoor
open Go Go.RowKit Go.Mq Go.Mq.Tree Go.Mq.Ref Go.Mq.Sym
set_option maxRecDepth 100000
set_option maxHeartbeats 4000000
theorem rof_any (vs:List Glob) (ps:List Proc) (hvs : vs.length≤10) (hps : ps.length≤10) (F:Nat→Prop) (nm:List UInt8) (x1:Option Addr) (y1 z1:Nat) (x4:Option Addr) (y4 z4:Nat) (vv vp:Value) (w:World) (hF : ∀ x,F x→x < w.heap.size) (hgv:GlobsAt w F vs vv) (hpv:ProcsL w F ps vp) :
  Calls Tryz.prog 13 #[.agg #[str nm,.slice x1 y1 z1,vv,vp,.slice x4 y4 z4]] w (fun e w'=>∃ v,e = .returned v∧SymsAt w' (New w w') (insSort (seenL vs ps)) v∧Chg [] w w'):=by
 obtain ⟨av,cv,rfl,hgv1,hgv2⟩:=hgv
 obtain ⟨ap,cp,pcs,rfl,hpv1,hpv2,hpv3⟩:=hpv
 obtain ⟨wM,hwM⟩ : ∃ x,w.alloc (.cells #[str nm,.slice x1 y1 z1,.slice av vs.length cv,.slice ap ps.length cp,.slice x4 y4 z4] 31)=x:=⟨_,rfl⟩
 have hbX:=Blk.new w #[str nm,.slice x1 y1 z1,.slice av vs.length cv,.slice ap ps.length cp,.slice x4 y4 z4] 31
 have hcM:Chg [] w wM:=by rw [← hwM]; exact (Chg.refl _ _).alloc _
 rw [hwM] at hbX
 obtain ⟨w0,hw0⟩ : ∃ x,wM.alloc (.cells #[nils] 45)=x:=⟨_,rfl⟩
 have hc0:Chg [] wM w0:=by rw [← hw0]; exact (Chg.refl _ _).alloc _
 have hbB:=Blk.new wM #[nils] 45
 rw [hw0] at hbB
 have hsM : wM.heap.size=w.heap.size + 1:=by rw [← hwM]; simp
 have hs0 : w0.heap.size=wM.heap.size + 1:=by rw [← hw0]; simp
 have hcX:=hcM.then hc0
 have hbX:=hbX.kept hc0 (by simp)
 have hblX : w.heap.size≠wM.heap.size:=by omega
 have hblt : wM.heap.size < w0.heap.size:=by omega
 have e0:=hbX.cell 0 _ rfl; have e1:=hbX.cell 1 _ rfl; have e2:=hbX.cell 2 _ rfl; have e3:=hbX.cell 3 _ rfl; have e4:=hbX.cell 4 _ rfl
 have HX:=Lib.hid hbX; have HCX:=Lib.hid hcX
 have HGV:=Lib.hid (hgv2.kept hcX (by simp)); have HPV:=Lib.hid (hpv2.kept hcX (by simp)); have HPL:=Lib.hid hpv3
 have HBB:=Lib.hid hbB
 have HFB:=Lib.hid (show ∀ x∈[wM.heap.size],¬ F x from fun x hx h=>by simp at hx; have:=hF x h; omega)
 have HS0:=Lib.hid (And.intro hsM hs0)
 clear hbX hcX hgv2 hpv2 hpv3 hcM hc0 hbB hsM hs0
 go_enter Tryz.func13,Tryz.ntmps13
 go_wp2_with fail
 clear hw0 hwM e0 e1 e2 e3 e4
 clear hF
 go_loopw [5,11] (fun _ i wr=>∃ (k:Nat) (rest:List Glob) (L:List Sy) (cs1:List Value) (a:Option Addr) (c:Nat),i = .int .i64 k∧k + rest.length=vs.length∧vs.flatMap Glob.cells=cs1 ++ rest.flatMap Glob.cells∧cs1.length=k * 4∧L.length≤k∧LB w0 (wM.heap.size) wr L a c∧L ++ (rest.filter (·.seen)).map varSy=(vs.filter (·.seen)).map varSy) (fun _ i _=>vs.length - (intOf i).toNat)
 case atStart=>exact ⟨0,vs,[],[],none,0,rfl,by simp,rfl,rfl,Nat.le_refl _,⟨HBB.out,World.ownsRow_nil _ _ _ _,From.nil _,Chg.refl _ _⟩,rfl⟩
 case round=>
  obtain ⟨k,rest,L,cs1,la,lc,rfl,hk,hcse,hl1,hLk,hlb,hT⟩:=hrel
  have HLB:=Lib.hid hlb; have HT:=Lib.hid hT
  have HC:=Lib.hid hlb.chg
  clear hlb hT
  cases rest with
  | nil=>
   have hke : ¬ k < vs.length:=by simp at hk; omega
   have hLe : (vs.filter (·.seen)).map varSy=L:=by have:=HT.out; simpa using this.symm
   have HLE:=Lib.hid hLe
   have hbX:=HX.out.kept HC.out (by simpa using hblX)
   have e0:=hbX.cell 0 _ rfl; have e1:=hbX.cell 1 _ rfl; have e2:=hbX.cell 2 _ rfl; have e3:=hbX.cell 3 _ rfl; have e4:=hbX.cell 4 _ rfl
   have hLv:L.length≤vs.length:=by simp at hk; omega
   clear hbX hcse hLe
   go_wp2_with fail
   clear e0 e1 e2 e3 e4
   have hce : ∀ x,L ++ x=(vs.filter (·.seen)).map varSy ++ x:=fun x=>by rw [HLE.out]
   have HCE:=Lib.hid hce
   clear hce HT
   go_loopw [7,29] (fun _ i wr=>∃ (k:Nat) (rest:List Proc) (M:List Sy) (cs1 cs2:List Value) (a:Option Addr) (c:Nat),i = .int .i64 k∧k + rest.length=ps.length∧pcs=cs1 ++ cs2∧cs1.length=k * 6∧PrsL rest cs2∧M.length≤vs.length + k∧LB w0 (wM.heap.size) wr M a c∧M ++ (rest.filter (·.seen)).map procSy=seenL vs ps) (fun _ i _=>ps.length - (intOf i).toNat)
   case atStart=>exact ⟨0,ps,L,[],pcs,la,lc,rfl,by simp,rfl,rfl,HPL.out,by omega,HLB.out,by rw [seenL,HCE.out]⟩
   case round=>
    clear HCE HLE HLB HC hLk hLv hl1 hk hke
    obtain ⟨k,rest,L,cs1,cs2,la,lc,rfl,hk,hcse,hl1,hpl,hLk,hlb,hT⟩:=hrel
    have HLB:=Lib.hid hlb; have HT:=Lib.hid hT
    have HC:=Lib.hid hlb.chg
    clear hlb hT
    cases rest with
    | nil=>
     have hke : ¬ k < ps.length:=by simp at hk; omega
     have hLe : seenL vs ps=L:=by have:=HT.out; simpa using this.symm
     have HLE:=Lib.hid hLe
     have hL20:L.length≤20:=by simp at hk; omega
     have hsz0:=HC.out.size
     clear hcse hpl hLe
     have q0:=HLB.out.box.cell 0 _ rfl
     rcases SyBlk.of_owns HLB.out.own with ⟨hlv,hnil⟩ | ⟨g,c,hlv,hlc,hsy⟩
     ·obtain ⟨rfl,hL0,rfl⟩ : la=none∧L.length=0∧lc=0:=by simpa using hlv
      have HNIL:=Lib.hid hnil
      rw [hL0] at q0
      clear hnil hlv hL0
      have HST:=Lib.hid (rslice_nil (wM.heap.size) wr)
      go_wp2_with fail
      refine HST.out.mono ?_; rintro _ w5 ⟨rfl,hc5⟩
      have q1:=hc5.cellSome q0 (by simp)
      have HC5:=Lib.hid (HC.out.then hc5.weak)
      clear hc5 q0
      go_wp2_with fail
      go_ret
      refine ⟨_,rfl,?_,HCX.out.trans HC5.out (fun x hx=>.inr (by have:=HS0.out; simp at hx; omega))⟩
      rw [HLE.out,HNIL.out]
      exact ⟨none,0,rfl,Nat.le_refl _,Row.nil _ _ _,fun _=>rfl⟩
     ·obtain ⟨rfl,rfl⟩ : la=some ⟨g,0,none⟩∧lc=c:=by simpa using hlv
      have hg0 : w0.heap.size≤g:=HLB.out.from_ g (by simp [blk])
      have HST:=Lib.hid (rslice_any g (wM.heap.size) lc L hL20 wr hsy q0 (by omega))
      clear hsy hlv
      go_wp2_with fail
      refine HST.out.mono ?_; rintro _ w5 ⟨rfl,hb5,hc5⟩
      have HB5:=Lib.hid hb5
      have q1:=hc5.cellSome q0 (by simp; omega)
      have HC5:=Lib.hid (HC.out.trans hc5 (fun x hx=>.inr (by simp at hx; omega)))
      clear hb5 hc5 q0
      go_wp2_with fail
      go_ret
      have hlt5:=HB5.out.lt
      refine ⟨_,rfl,?_,HCX.out.trans HC5.out (fun x hx=>.inr (by have:=HS0.out; simp at hx; omega))⟩
      rw [HLE.out]
      exact ⟨_,lc,by rw [insSort_length]; rfl,by rw [insSort_length]; exact hlc,HB5.out.row ⟨by have:=HS0.out; omega,hlt5⟩,fun h=>by cases h⟩
    | cons x r=>
     obtain ⟨xn,xp,xse,xps,xvs,xb⟩:=x
     obtain ⟨_,cs',rfl,⟨pos,a1,k1,a2,n2,k2,a3,n3,k3,rfl⟩,hpl'⟩:=hpl
     have HR:=Lib.hid hpl'
     have hlt : k < ps.length:=by simp at hk; omega
     simp only [List.cons_append,List.nil_append] at hcse
     have HCSE:=Lib.hid hcse
     clear hpl'
     have hxl : xps.length≤1000000∨True:=.inr trivial
     have hrw:=HPV.out.kept HC.out HFB.out
     rw [hcse] at hrw
     obtain ⟨bb,off,rfl,d0,d1,d2,d3,d4,d5⟩:=cells6S hrw hl1
     have hz:=Blk.new wr #[str [],.int .i64 0,.bool false,nils,nils,nils] 87
     obtain ⟨wA,hwA⟩ : ∃ wA,wr.alloc (.cells #[str [],.int .i64 0,.bool false,nils,nils,nils] 87)=wA:=⟨_,rfl⟩
     rw [hwA] at hz
     have hcA:Chg [] wr wA:=by rw [← hwA]; exact (Chg.refl _ _).alloc _
     obtain ⟨wF,hwF,hcF,hbF⟩:=set6S (str xn) (.int .i64 pos) (.bool xse) (.slice a1 xps.length k1) (.slice a2 n2 k2) (.slice a3 n3 k3) hz
     have hcw:Chg [] wr wF:=hcA.trans hcF (fun x hx=>.inr (by simp at hx; omega))
     have g0:=hcA.cellSome d0 (by simp); have g1:=hcA.cellSome d1 (by simp); have g2:=hcA.cellSome d2 (by simp); have g3:=hcA.cellSome d3 (by simp); have g4:=hcA.cellSome d4 (by simp); have g5:=hcA.cellSome d5 (by simp)
     have z0:=hz.cell 0 _ rfl; have z1:=hz.cell 1 _ rfl; have z2:=hz.cell 2 _ rfl; have z3:=hz.cell 3 _ rfl; have z4:=hz.cell 4 _ rfl; have z5:=hz.cell 5 _ rfl
     have y0:=hz.frozen 0; have y1:=hz.frozen 1; have y2:=hz.frozen 2; have y3:=hz.frozen 3; have y4:=hz.frozen 4; have y5:=hz.frozen 5
     have b0:=hbF.cell 0 _ rfl; have b1:=hbF.cell 1 _ rfl; have b2:=hbF.cell 2 _ rfl; have b3:=hbF.cell 3 _ rfl; have b4:=hbF.cell 4 _ rfl; have b5:=hbF.cell 5 _ rfl
     have HLF:=Lib.hid (HLB.out.kept hcw)
     have q0:=HLF.out.box.cell 0 _ rfl
     have hszF:=hcw.size
     have hsz0:=HC.out.size
     clear hrw hcA hcF hbF hcw hz hcse
     cases hgs : xse with
     | false=>
      subst hgs
      go_wp2_with fail
      exact ⟨⟨k + 1,r,L,cs1 ++ [str xn,.int .i64 pos,.bool false,.slice a1 xps.length k1,.slice a2 n2 k2,.slice a3 n3 k3],cs',la,lc,by go_num,by simp at hk; omega,by rw [HCSE.out]; simp,by simp [hl1]; omega,HR.out,by omega,HLF.out,by have e:=seen_proc HT.out; simpa using e⟩,by simp [intOf]; omega⟩
     | true=>
      subst hgs
      have HL2:=Lib.hid (HLF.out.kept ((Chg.refl [] wF).alloc (.cells #[str xn,.int .i64 0,.int .i64 (xps.length:Int)] 106)))
      go_wp2_with (at_builtin; go_must (refine wpL_append rfl _ _ 45 rfl 106 _ 3 32 infoSym Tryz.underlying45 rfl (by decide) _ _ _ rfl HL2.out.own ⟨wF.heap.size,0,none⟩ 1 1 (Sy.cells (⟨xn,0,(xps.length:Int)⟩ : Sy)) rfl rfl (cells_new _ _ _) (by simp [Sy.cells,Value.oneCell']) ?_ ?_ ?_))
      ·omega
      ·unfold maxLen; omega
      ·intro v' w' hown' hch' hmv'
       obtain ⟨a',c',rfl,hbx,hlb⟩:=HL2.out.snoc (x:=(⟨xn,0,(xps.length:Int)⟩ : Sy)) hblt hown' hch' hmv' (by simp; omega)
       have q1:=hbx.cell 0 _ rfl; have y9:=hbx.frozen 0
       have HL3:=Lib.hid hlb
       clear hown' hch' hmv' hbx hlb q0
       go_wp2_with fail
       go_roundw
       case rel=>exact ⟨k + 1,r,L ++ [(⟨xn,0,(xps.length:Int)⟩ : Sy)],cs1 ++ [str xn,.int .i64 pos,.bool true,.slice a1 xps.length k1,.slice a2 n2 k2,.slice a3 n3 k3],cs',a',c',by go_num,by simp at hk; omega,by rw [HCSE.out]; simp,by simp [hl1]; omega,HR.out,by simp; omega,HL3.out,by have e:=seen_proc HT.out; simpa [varSy,procSy] using e⟩
       case measure=>simp [intOf]; omega
  | cons g r=>
   obtain ⟨gn,gp,gl,gs⟩:=g
   have hlt : k < vs.length:=by simp at hk; omega
   simp only [List.flatMap_cons,Glob.cells,List.cons_append,List.nil_append] at hcse
   have HCSE:=Lib.hid hcse
   have hrw:=HGV.out.kept HC.out HFB.out
   rw [hcse] at hrw
   obtain ⟨bb,off,rfl,d0,d1,d2,d3⟩:=cells4S hrw hl1
   have hz:=Blk.new wr #[str [],.int .i64 0,.int .i64 0,.bool false] 84
   obtain ⟨wA,hwA⟩ : ∃ wA,wr.alloc (.cells #[str [],.int .i64 0,.int .i64 0,.bool false] 84)=wA:=⟨_,rfl⟩
   rw [hwA] at hz
   have hcA:Chg [] wr wA:=by rw [← hwA]; exact (Chg.refl _ _).alloc _
   obtain ⟨wF,hwF,hcF,hbF⟩:=set4S (str gn) (.int .i64 gp) (.int .i64 gl) (.bool gs) hz
   have hcw:Chg [] wr wF:=hcA.trans hcF (fun x hx=>.inr (by simp at hx; omega))
   have g0:=hcA.cellSome d0 (by simp); have g1:=hcA.cellSome d1 (by simp); have g2:=hcA.cellSome d2 (by simp); have g3:=hcA.cellSome d3 (by simp)
   have z0:=hz.cell 0 _ rfl; have z1:=hz.cell 1 _ rfl; have z2:=hz.cell 2 _ rfl; have z3:=hz.cell 3 _ rfl
   have y0:=hz.frozen 0; have y1:=hz.frozen 1; have y2:=hz.frozen 2; have y3:=hz.frozen 3
   have b0:=hbF.cell 0 _ rfl; have b1:=hbF.cell 1 _ rfl; have b2:=hbF.cell 2 _ rfl; have b3:=hbF.cell 3 _ rfl
   have HLF:=Lib.hid (HLB.out.kept hcw)
   have q0:=HLF.out.box.cell 0 _ rfl
   have hszF:=hcw.size
   have hsz0:=HC.out.size
   clear hrw hcA hcF hbF hcw hz hcse
   cases hgs : gs with
   | false=>
    subst hgs
    go_wp2_with fail
    exact ⟨⟨k + 1,r,L,cs1 ++ [str gn,.int .i64 gp,.int .i64 gl,.bool false],la,lc,by go_num,by simp at hk; omega,by rw [HCSE.out]; simp,by simp [hl1]; omega,by omega,HLF.out,by have e:=seen_var HT.out; simpa using e⟩,by simp [intOf]; omega⟩
   | true=>
    subst hgs
    have HL2:=Lib.hid (HLF.out.kept ((Chg.refl [] wF).alloc (.cells #[str gn,.int .i64 gl,.int .i64 (-1)] 106)))
    go_wp2_with (at_builtin; go_must (refine wpL_append rfl _ _ 45 rfl 106 _ 3 32 infoSym Tryz.underlying45 rfl (by decide) _ _ _ rfl HL2.out.own ⟨wF.heap.size,0,none⟩ 1 1 (Sy.cells (⟨gn,gl,-1⟩ : Sy)) rfl rfl (cells_new _ _ _) (by simp [Sy.cells,Value.oneCell']) ?_ ?_ ?_))
    ·omega
    ·unfold maxLen; omega
    ·intro v' w' hown' hch' hmv'
     obtain ⟨a',c',rfl,hbx,hlb⟩:=HL2.out.snoc (x:=(⟨gn,gl,-1⟩ : Sy)) hblt hown' hch' hmv' (by simp; omega)
     have q1:=hbx.cell 0 _ rfl; have y9:=hbx.frozen 0
     have HL3:=Lib.hid hlb
     clear hown' hch' hmv' hbx hlb q0
     go_wp2_with fail
     go_roundw
     case rel=>exact ⟨k + 1,r,L ++ [(⟨gn,gl,-1⟩ : Sy)],cs1 ++ [str gn,.int .i64 gp,.int .i64 gl,.bool true],a',c',by go_num,by simp at hk; omega,by rw [HCSE.out]; simp,by simp [hl1]; omega,by simp; omega,HL3.out,by have e:=seen_var HT.out; simpa [varSy,procSy] using e⟩
     case measure=>simp [intOf]; omega
end Go.Proofs.YtojkkgghndeimaaGreatDoor
namespace Go.Proofs.YtojkkgghndeimaaGreatDoor
open Go Go.RowKit Go.Mq Go.Mq.Tree Go.Mq.Ref Go.Mq.Sym
set_option maxRecDepth 100000
set_option maxHeartbeats 2000000
theorem rline_any (s:Sy) (hf : s.fit) (w:World) (B:Nat) (hL:Laid w B):Calls Tryz.prog 85 #[.agg #[str s.name,.int .i64 s.len,.int .i64 s.args]] w (fun e w'=>e = .returned (str (lineT s))∧Chg [] w w'):=by
 obtain ⟨hn,hl0,hl1,ha0,ha1⟩:=hf
 obtain ⟨nm,hnm⟩ : ∃ n:ByteArray,n=bs s.name:=⟨_,rfl⟩
 have hnz : nm.size≤1000000:=by rw [hnm]; exact hn
 have HNM:=Lib.hid hnm
 change Calls _ _ #[.agg #[.string (bs s.name),.int .i64 s.len,.int .i64 s.args]] _ _
 rw [← hnm]
 obtain ⟨wA,hwA⟩ : ∃ wA,w.alloc (.cells #[.string nm,.int .i64 s.len,.int .i64 s.args] 106)=wA:=⟨_,rfl⟩
 have hbA:=Blk.new w #[.string nm,.int .i64 s.len,.int .i64 s.args] 106
 have hcA:Chg [] w wA:=by rw [← hwA]; exact (Chg.refl _ _).alloc _
 rw [hwA] at hbA
 have x0:=hbA.cell 0 _ rfl; have x1:=hbA.cell 1 _ rfl; have x2:=hbA.cell 2 _ rfl
 have HC:=Lib.hid hcA; have HB:=Lib.hid hbA
 have HLT:=Lib.hid (show w.heap.size < wA.drew.heap.size from hbA.lt)
 have HZ:=Lib.hid (Zone.of (X:=[]) (w0:=wA.drew) (off:=0) (b:=w.heap.size) x0 (by simp))
 have HDR:=Lib.hid (hcA.drew)
 have HIT:=Lib.hid (fun (n:Int) (h0 : 0≤n) (h1 : n≤9223372036854775807) (w':World) (hc:Chg [] w w')=>itoa_any n h0 h1 w' B (hL.kept hc (by simp)))
 clear hcA hbA hL hnm hn
 by_cases h0 : 0≤s.args
 ·obtain ⟨t,ht⟩ : ∃ t:ByteArray,t=bs (Lib.itoa s.args):=⟨_,rfl⟩
  have htz : t.size≤21:=by rw [ht]; exact Lib.itoa_length_le s.args (by omega) (by omega)
  have HR:=Lib.hid (show bs (lineT s)=bs [112,114,111,99,32] ++ nm ++ bs [32] ++ t ++ bs [10] by rw [lineT,if_pos h0,bs_append,bs_append,bs_append,bs_append,← HNM.out,← ht])
  have HI:=Lib.hid (show ∀ w',Chg [] w w'→Calls Tryz.prog 66 #[.int .i64 s.args] w' (fun e w''=>e = .returned (.string t)∧Chg [] w' w'') from fun w' hc=>by rw [ht]; exact HIT.out s.args h0 (by omega) w' hc)
  clear ht
  go_enter Tryz.func85,Tryz.ntmps85
  go_wp2_with fail
  refine wp_region_C [] rfl (by kernel_rfl) ?_
  have hS:Chg [] wA.drew wA.drew:=Chg.refl _ _
  repeat ((with_reducible refine gX ?_); (first | refine wpX_nil ?_ | refine sK ?_ | refine sM fun _ _=>?_ | refine sL fun _ _=>?_ | refine sE fun _ _=>?_); go_wp2_with fail)
  refine (HI.out _ (HDR.out.then hS)).mono ?_; rintro _ wj ⟨rfl,hw⟩; have hS:=hS.then hw; clear hw
  go_wp2_with fail
  refine And.intro hS ?_
  repeat ((with_reducible refine gX ?_); (first | refine wpX_nil ?_ | refine sK ?_ | refine sM fun _ _=>?_ | refine sL fun _ _=>?_ | refine sE fun _ _=>?_); go_wp2_with fail)
  have HE:=Lib.hid (HDR.out.then hS)
  go_ret
  exact ⟨congrArg (fun t=>Ending.returned (Value.string t)) HR.out.symm,HE.out⟩
 ·by_cases h1 : 0 < s.len
  ·obtain ⟨t,ht⟩ : ∃ t:ByteArray,t=bs (Lib.itoa s.len):=⟨_,rfl⟩
   have htz : t.size≤21:=by rw [ht]; exact Lib.itoa_length_le s.len (by omega) (by omega)
   have HR:=Lib.hid (show bs (lineT s)=bs [97,114,114,97,121,32] ++ nm ++ bs [32] ++ t ++ bs [10] by rw [lineT,if_neg h0,if_pos h1,bs_append,bs_append,bs_append,bs_append,← HNM.out,← ht])
   have HI:=Lib.hid (show ∀ w',Chg [] w w'→Calls Tryz.prog 66 #[.int .i64 s.len] w' (fun e w''=>e = .returned (.string t)∧Chg [] w' w'') from fun w' hc=>by rw [ht]; exact HIT.out s.len hl0 (by omega) w' hc)
   clear ht
   go_enter Tryz.func85,Tryz.ntmps85
   go_wp2_with fail
   refine wp_region_C [] rfl (by kernel_rfl) ?_
   have hS:Chg [] wA.drew wA.drew:=Chg.refl _ _
   repeat ((with_reducible refine gX ?_); (first | refine wpX_nil ?_ | refine sK ?_ | refine sM fun _ _=>?_ | refine sL fun _ _=>?_ | refine sE fun _ _=>?_); go_wp2_with fail)
   refine (HI.out _ (HDR.out.then hS)).mono ?_; rintro _ wj ⟨rfl,hw⟩; have hS:=hS.then hw; clear hw
   go_wp2_with fail
   refine And.intro hS ?_
   repeat ((with_reducible refine gX ?_); (first | refine wpX_nil ?_ | refine sK ?_ | refine sM fun _ _=>?_ | refine sL fun _ _=>?_ | refine sE fun _ _=>?_); go_wp2_with fail)
   have HE:=Lib.hid (HDR.out.then hS)
   go_ret
   exact ⟨congrArg (fun t=>Ending.returned (Value.string t)) HR.out.symm,HE.out⟩
  ·have HR:=Lib.hid (show bs (lineT s)=bs [105,110,116,32] ++ nm ++ bs [10] by rw [lineT,if_neg h0,if_neg h1,bs_append,bs_append,← HNM.out])
   have h0' : s.args < 0:=by omega
   have h1' : ¬ 0 < s.len:=h1
   go_enter Tryz.func85,Tryz.ntmps85
   go_wp2_with fail
   go_ret
   exact ⟨congrArg (fun t=>Ending.returned (Value.string t)) HR.out.symm,HC.out⟩
theorem rfind_any (l:List Sy) (hl : l.length≤1000) (n:List UInt8) (F:Nat→Prop) (v:Value) (w:World) (h:SymsAt w F l v) :
  Calls Tryz.prog 36 #[v,str n] w (fun e w'=>e = .returned (.int .i64 (findI l n))∧Chg [] w w'):=by
 obtain ⟨a,c,rfl,hac,hrow,_⟩:=h
 have HROW:=Lib.hid hrow
 clear hrow
 go_enter Tryz.func36,Tryz.ntmps36
 go_wp2_with fail
 go_loopw [5,6,9] (fun _ _ i wr=>∃ k:Nat,i=num k∧k≤l.length∧Chg [] w wr ∧ ∀ (i:Nat) (x:Sy),i < k→l[i]?=some x→x.name≠n) (fun _ _ i _=>l.length - (intOf i).toNat)
 case atStart=>exact ⟨0,rfl,Nat.zero_le _,Chg.refl _ _,fun i x hi=>by omega⟩
 case round=>
  obtain ⟨k,rfl,hk,hc,hno⟩:=hrel
  have HNO:=Lib.hid hno; have HC:=Lib.hid hc
  clear hno hc
  by_cases hlt : k < l.length
  ·obtain ⟨s,hs⟩ : ∃ s,l[k]?=some s:=⟨l[k],List.getElem?_eq_getElem hlt⟩
   obtain ⟨bb,off,rfl,d0,d1,d2⟩:=sy_cells3 (HROW.out.kept HC.out (by simp)) hs
   have HS:=Lib.hid hs
   have hz:=Blk.new wr #[str [],.int .i64 0,.int .i64 0] 106
   obtain ⟨wA,hwA⟩ : ∃ wA,wr.alloc (.cells #[str [],.int .i64 0,.int .i64 0] 106)=wA:=⟨_,rfl⟩
   rw [hwA] at hz
   have hcA:Chg [] wr wA:=by rw [← hwA]; exact (Chg.refl _ _).alloc _
   obtain ⟨wF,hwF,hcF,hbF⟩:=set3 (str s.name) (.int .i64 s.len) (.int .i64 s.args) hz
   have hcw:Chg [] wr wF:=hcA.trans hcF (fun x hx=>.inr (by simp at hx; omega))
   have g0:=hcA.cellSome d0 (by simp); have g1:=hcA.cellSome d1 (by simp); have g2:=hcA.cellSome d2 (by simp)
   have z0:=hz.cell 0 _ rfl; have z1:=hz.cell 1 _ rfl; have z2:=hz.cell 2 _ rfl
   have y0:=hz.frozen 0; have y1:=hz.frozen 1; have y2:=hz.frozen 2
   have e0:=hbF.cell 0 _ rfl; have e1:=hbF.cell 1 _ rfl; have e2:=hbF.cell 2 _ rfl
   have HCF:=Lib.hid (HC.out.then hcw)
   clear hcA hcF hbF hcw hz hs
   cases hq : (s.name == n) with
   | true=>
    have HR:=Lib.hid (show findI l n=k by rw [findI,findI_some HS.out (by simpa using hq) HNO.out])
    go_wp2_with fail
    go_ret
    exact ⟨by rw [HR.out]; rfl,HCF.out⟩
   | false=>
    have HN:=Lib.hid (show s.name≠n by simpa using hq)
    go_wp2_with fail
    refine ⟨⟨k + 1,by go_num,by omega,HCF.out,fun i x hi hx=>?_⟩,by simp [intOf]; omega⟩
    by_cases he : i < k
    ·exact HNO.out i x he hx
    ·have : i=k:=by omega
     subst this
     rw [HS.out] at hx
     cases hx
     exact HN.out
  ·have HR:=Lib.hid (show findI l n = -1 by rw [findI,findI_none fun i x hx=>HNO.out i x (by have:=(List.getElem?_eq_some_iff.1 hx).1; omega) hx])
   go_wp2_with fail
   go_ret
   exact ⟨by rw [HR.out]; rfl,HC.out⟩
theorem rneeds_any (l:List Sy) (hf : ∀ x∈l,x.fit) (hl : l.length≤1000) (names:List (List UInt8)) (hn : names.length≤1000) (hs : ∀ n∈names,n.length≤1000000) (F F':Nat→Prop) (v v':Value) (w:World) (B:Nat) (hL:Laid w B) (h:SymsAt w F l v) (h':NamesAt w F' names v') :
  Calls Tryz.prog 34 #[v,v'] w (fun e w'=>e = .returned (str (needsT l names))∧Chg [] w w'):=by
 have HSY:=Lib.hid h; have HL:=Lib.hid hL; have HFIT:=Lib.hid hf; have HSM:=Lib.hid hs
 obtain ⟨a,c,rfl,hac,hrow,_⟩:=h
 obtain ⟨a',c',rfl,hac',hrow'⟩:=h'
 have HROW:=Lib.hid hrow; have HROW':=Lib.hid hrow'
 clear hrow hrow' hL hf hs
 go_enter Tryz.func34,Tryz.ntmps34
 go_wp2_with fail
 go_loopw [5,7,8,11] (fun s _ _ i wr=>∃ (k:Nat) (u:List UInt8),s=str u∧i = .int .i64 k∧k≤names.length∧Chg [] w wr∧u=needsT l (names.take k)∧u.length≤1000200 * k) (fun _ _ _ i _=>names.length - (intOf i).toNat)
 case atStart=>exact ⟨0,[],rfl,rfl,Nat.zero_le _,Chg.refl _ _,by simp [needsT],by simp⟩
 case round=>
  obtain ⟨k,u,rfl,rfl,hk,hc,hu,hul⟩:=hrel
  have HC:=Lib.hid hc; have HU:=Lib.hid hu
  clear hc hu
  by_cases hlt : k < names.length
  ·obtain ⟨n,hn'⟩ : ∃ n,names[k]?=some n:=⟨names[k],List.getElem?_eq_getElem hlt⟩
   have hnz:=HSM.out n (List.mem_of_getElem? hn')
   obtain ⟨b',o',rfl,hcell⟩:=HROW'.out.at_ (by simp; omega)
   have hcl:=HC.out.cellSome (hcell k (str n) (by rw [List.getElem?_map,hn']; rfl)) (by simp)
   have HFD:=Lib.hid (rfind_any l hl n F _ wr (HSY.out.kept HC.out (by simp)))
   have HNX:=Lib.hid (show needsT l (names.take (k + 1))=needsT l (names.take k) ++ needT l n by rw [List.take_add_one,hn']; simp [needsT])
   obtain ⟨nb,hnb⟩ : ∃ t:ByteArray,t=bs n:=⟨_,rfl⟩
   have hnbz : nb.size≤1000000:=by rw [hnb]; exact hnz
   obtain ⟨ub,hub⟩ : ∃ t:ByteArray,t=bs u:=⟨_,rfl⟩
   have hubz : ub.size≤1000200 * k:=by rw [hub]; exact hul
   have HNB:=Lib.hid hnb; have HUB:=Lib.hid hub
   clear hcell hn'
   cases hq : findS l n with
   | none=>
    have hfi : findI l n = -1:=by rw [findI,hq]
    rw [hfi] at HFD
    have HQ:=Lib.hid hq
    clear hq hfi
    have HV:=Lib.hid (show Value.string (bs u ++ (bs [110,111,110,101,32] ++ bs n ++ bs [10]))=str (u ++ needT l n) by rw [← bs_append,← bs_append,← bs_append,needT,HQ.out])
    have HLE:=Lib.hid (show (needT l n).length≤1000100 by rw [needT,HQ.out]; simp; omega)
    go_wp2_with fail
    refine HFD.out.mono ?_; rintro _ w2 ⟨rfl,hq⟩
    have HC2:=Lib.hid (HC.out.then hq); clear hq
    go_wp2_with fail
    refine ⟨⟨k + 1,u ++ needT l n,HV.out,by go_num,by omega,HC2.out,by rw [HNX.out,HU.out],by have:=HLE.out; simp; omega⟩,by simp [intOf]; omega⟩
   | some j=>
    have hfi : findI l n=j:=by rw [findI,hq]
    have hjl:=findS_lt hq
    rw [hfi] at HFD
    obtain ⟨s,hs⟩ : ∃ s,l[j]?=some s:=⟨l[j],List.getElem?_eq_getElem hjl⟩
    have hnt : needT l n=lineT s:=by
     rw [needT,hq]
     show lineT (l.getD j Sy.none)=lineT s
     rw [List.getD_eq_getElem?_getD,hs]; rfl
    have HNT:=Lib.hid hnt; have HS:=Lib.hid hs
    have hfit:=HFIT.out s (List.mem_of_getElem? hs)
    have HFT:=Lib.hid hfit
    have HLE:=Lib.hid (line_le hfit)
    clear hq hfi hnt hs hfit
    go_wp2_with fail
    refine HFD.out.mono ?_; rintro _ w2 ⟨rfl,hq⟩
    have HC2:=Lib.hid (HC.out.then hq); clear hq
    obtain ⟨bb,off,rfl,d0,d1,d2⟩:=sy_cells3 (HROW.out.kept HC2.out (by simp)) HS.out
    have HLN:=Lib.hid (rline_any s HFT.out w2 B (HL.out.kept HC2.out (by simp)))
    obtain ⟨t,ht⟩ : ∃ t:ByteArray,t=bs (lineT s):=⟨_,rfl⟩
    have htz : t.size≤1000100:=by rw [ht]; exact HLE.out
    rw [show str (lineT s) = .string t from congrArg Value.string ht.symm] at HLN
    have HV:=Lib.hid (show Value.string (bs u ++ t)=str (u ++ needT l n) by rw [ht,← bs_append,HNT.out])
    clear ht
    go_wp2_with fail
    refine HLN.out.mono ?_; rintro _ w3 ⟨rfl,hq⟩
    have HC3:=Lib.hid (HC2.out.then hq); clear hq
    go_wp2_with fail
    refine ⟨⟨k + 1,u ++ needT l n,HV.out,by go_num,by omega,HC3.out,by rw [HNX.out,HU.out],by have:=HLE.out; rw [HNT.out]; simp; omega⟩,by simp [intOf]; omega⟩
  ·have hke : k=names.length:=by omega
   have HR:=Lib.hid (show u=needsT l names by rw [HU.out,hke,List.take_length])
   go_wp2_with fail
   go_ret
   exact ⟨by rw [← HR.out]; rfl,HC.out⟩
end Go.Proofs.YtojkkgghndeimaaGreatDoor
