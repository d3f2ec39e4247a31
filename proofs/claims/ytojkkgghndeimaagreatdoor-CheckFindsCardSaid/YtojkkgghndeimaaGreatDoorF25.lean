/- Some texts in one. -/
import Derived.Deep.DeepCutAuto
import Derived.Test.YtojkkgghndeimaaGreatDoorF5
import Derived.Test.YtojkkgghndeimaaGreatDoorF22
import Derived.Test.YtojkkgghndeimaaGreatDoorF23
import Derived.Test.YtojkkgghndeimaaGreatDoorF24
namespace Go.Mq.Check
open Go Go.RowKit Go.Mq Go.Mq.Tree Go.Mq.Sym
theorem split_hit {α:Type} {l:List α} {k:Nat} {x : α} (h : l[k]?=some x) : l=l.take k ++ x :: l.drop (k + 1):=by
 obtain ⟨hk,rfl⟩:=List.getElem?_eq_some_iff.1 h
 rw [← List.drop_eq_getElem_cons hk,List.take_append_drop]
theorem find_hit {α:Type} {f : α→Bool} {l:List α} {k:Nat} {x : α} (hk : l[k]?=some x) (hx : f x=true) (hb : ∀ (i:Nat) (y : α),i < k→l[i]?=some y→f y=false) : l.find? f=some x:=by
 rw [split_hit hk,List.find?_append]
 have h1 : (l.take k).find? f=none:=List.find?_eq_none.2 fun y hy=>by
  obtain ⟨i,hi,rfl⟩:=List.mem_iff_getElem.1 hy
  rw [List.length_take] at hi
  rw [hb i _ (by omega) (by rw [List.getElem_take]; exact List.getElem?_eq_getElem _)]
  simp
 rw [h1]
 simp [List.find?_cons,hx]
theorem find_miss {α:Type} {f : α→Bool} {l:List α} (hb : ∀ (i:Nat) (y : α),l[i]?=some y→f y=false) : l.find? f=none:=List.find?_eq_none.2 fun y hy=>by
 obtain ⟨i,hi⟩:=List.mem_iff_getElem?.1 hy
 rw [hb i y hi]
 simp
structure REnv (w:World) (F:Nat→Prop) (c:Env) (v vo vm:Value):Prop where
 fewi : c.imports.length≤1000
 fewl : c.locals.length≤1000
 fewv : c.vars.length≤1000
 fewp : c.procs.length≤1000
 at_ : ∃ nm ai ci av cv ap cp ab nb cb al cl om,v = .agg #[str nm,.slice ai c.imports.length ci,.slice av c.vars.length cv,.slice ap c.procs.length cp,.slice ab nb cb]∧vo = .slice al c.locals.length cl∧vm = .map om ∧
  NamesAt w F c.imports (.slice ai c.imports.length ci)∧GlobsAt w F c.vars (.slice av c.vars.length cv)∧ProcsL w F c.procs (.slice ap c.procs.length cp)∧NamesAt w F c.locals (.slice al c.locals.length cl)∧SeenAt w F c.seen (.map om)
theorem REnv.kept {Z:List Nat} {w w':World} {F:Nat→Prop} {c:Env} {v vo vm:Value} (h:REnv w F c v vo vm) (hc:Chg Z w w') (hZ : ∀ x∈Z,¬ F x):REnv w' F c v vo vm:=by
 obtain ⟨nm,ai,ci,av,cv,ap,cp,ab,nb,cb,al,cl,om,h1,h2,h3,h4,h5,h6,h7,h8⟩:=h.at_
 exact ⟨h.fewi,h.fewl,h.fewv,h.fewp,nm,ai,ci,av,cv,ap,cp,ab,nb,cb,al,cl,om,h1,h2,h3,h4.kept hc hZ,h5.kept hc hZ,h6.kept hc hZ,h7.kept hc hZ,h8.kept hc hZ⟩
def Stood (w:World) (g:Got) (e:Ending) (w':World):Prop:=Chg [] w w'∧match g with
 | .bad en _=>e = .returned (.tuple #[.agg #[str [],.int .i64 0,.int .i64 0],.int .i64 en])
 | .is s=>∃ nm:List UInt8,e = .returned (.tuple #[.agg #[str nm,.int .i64 s.len,.int .i64 s.args],.int .i64 0])
theorem sy3 (w:World) {w0:World} {b:Nat} (hz:Blk w0 b #[str [],.int .i64 0,.int .i64 0] 106) (hc0:Chg [] w w0) (hb : w.heap.size≤b) {wr:World} (hc:Chg [] w0 wr) (x y z:Value) :
  ∃ wF,(((wr.setCell ⟨b,0,none⟩ x).setCell ⟨b,1,none⟩ y).setCell ⟨b,2,none⟩ z)=wF∧Hid (Chg [] w wF)∧(wr.cell? ⟨b,0,none⟩=some (str [])∧wr.cell? ⟨b,1,none⟩=some (.int .i64 0)∧wr.cell? ⟨b,2,none⟩=some (.int .i64 0))∧(wr.frozen? ⟨b,0,none⟩=false∧wr.frozen? ⟨b,1,none⟩=false∧wr.frozen? ⟨b,2,none⟩=false)∧wF.cell? ⟨b,0,none⟩=some x∧wF.cell? ⟨b,1,none⟩=some y∧wF.cell? ⟨b,2,none⟩=some z:=by
 have hr:=hz.kept hc (by simp)
 obtain ⟨wF,h1,h2,h3⟩:=set3 x y z hr
 exact ⟨wF,h1,Lib.hid ((hc0.then hc).trans h2 (fun i hi=>.inr (by simp at hi; omega))),hr.three,⟨hr.frozen 0,hr.frozen 1,hr.frozen 2⟩,h3.three⟩
end Go.Mq.Check
namespace Go.Proofs.YtojkkgghndeimaaGreatDoor
open Go Go.RowKit Go.Mq Go.Mq.Tree Go.Mq.Sym Go.Mq.Check
set_option maxRecDepth 100000
set_option maxHeartbeats 4000000
theorem rstands_any (c:Env) (p:Nat) (m n:List UInt8) (F:Nat→Prop) (w:World) (v vo vm:Value) (hE:REnv w F c v vo vm) :
  Calls Tryz.prog 163 #[v,vo,vm,str m,str n] w (Stood w (c.find p m n)):=by
 obtain ⟨nm,ai,ci,av,cv,ap,cp,ab,nb,cb,al,cl,om,rfl,rfl,rfl,hni,hgv,hpv,hnl,hsv⟩:=hE.at_
 have HI:=hE.fewi; have HLO:=hE.fewl; have HVS:=hE.fewv; have HPS:=hE.fewp
 obtain ⟨wm,hwm⟩ : ∃ x,w.alloc (.cells #[str nm,.slice ai c.imports.length ci,.slice av c.vars.length cv,.slice ap c.procs.length cp,.slice ab nb cb] 31)=x:=⟨_,rfl⟩
 have hmb:=Blk.new w #[str nm,.slice ai c.imports.length ci,.slice av c.vars.length cv,.slice ap c.procs.length cp,.slice ab nb cb] 31
 have hcm:Chg [] w wm:=by rw [← hwm]; exact (Chg.refl _ _).alloc _
 have hsm : wm.heap.size=w.heap.size + 1:=by rw [← hwm]; simp
 rw [hwm] at hmb
 obtain ⟨w0,hw0⟩ : ∃ x,wm.alloc (.cells #[str [],.int .i64 0,.int .i64 0] 106)=x:=⟨_,rfl⟩
 have heb:=Blk.new wm #[str [],.int .i64 0,.int .i64 0] 106
 have hc0:Chg [] wm w0:=by rw [← hw0]; exact (Chg.refl _ _).alloc _
 rw [hw0] at heb
 have hcw:=hcm.then hc0
 have HNI:=Lib.hid (hni.kept hcw (by simp)); have HGV:=Lib.hid (hgv.kept hcw (by simp)); have HPV:=Lib.hid (hpv.kept hcw (by simp)); have HNL:=Lib.hid (hnl.kept hcw (by simp)); have HSV:=Lib.hid (hsv.kept hcw (by simp))
 have HMB:=Lib.hid (hmb.kept hc0 (by simp))
 have HR:=Lib.hid (fun (wr:World) (hc:Chg [] w0 wr) (x y z:Value)=>sy3 w heb hcw (by omega) hc x y z)
 have HCW:=Lib.hid hcw
 clear hni hgv hpv hnl hsv hmb heb hcm hc0 hcw hsm hE
 have m1:=HMB.out.cell 1 _ rfl; have m2:=HMB.out.cell 2 _ rfl; have m3:=HMB.out.cell 3 _ rfl
 by_cases hm : m=[]
 ·subst hm
  clear m1
  go_enter Tryz.func163,Tryz.ntmps163
  go_wp2_with fail
  clear hwm hw0 m2 m3
  go_loopw [17,57] (fun _ i wr=>∃ k:Nat,i = .int .i64 k∧k≤c.locals.length∧Chg [] w0 wr∧n∉c.locals.take k) (fun _ i _=>c.locals.length - (intOf i).toNat)
  case atStart=>exact ⟨0,rfl,Nat.zero_le _,Chg.refl _ _,by simp⟩
  case round=>
   obtain ⟨k,rfl,hk,hc,hno⟩:=hrel
   have HC:=Lib.hid hc; have HNO:=Lib.hid hno
   clear hc hno
   by_cases hlt : k < c.locals.length
   ·obtain ⟨x,hx⟩ : ∃ x,c.locals[k]?=some x:=⟨c.locals[k],List.getElem?_eq_getElem hlt⟩
    obtain ⟨a,cc,hv,hcl,hrow⟩:=HNL.out
    cases hv
    obtain ⟨b,o,rfl,d0⟩:=names_cell (hrow.kept HC.out (by simp)) hx
    have HX:=Lib.hid hx
    clear hrow hx hcl
    cases hq : (x == n) with
    | true=>
     have HFD:=Lib.hid (show c.find p [] n = .is ⟨n,0,-1⟩ by
      have : x=n:=by simpa using hq
      rw [Env.find,if_neg (by simp),if_pos (this ▸ List.mem_of_getElem? HX.out)])
     obtain ⟨wF,hwF,HCF,⟨e0,e1,e2⟩,⟨r0,r1,r2⟩,f0,f1,f2⟩:=HR.out _ HC.out (str []) (.int .i64 0) (.int .i64 (-1))
     go_wp2_with fail
     refine bodyPost_ret (v:=.tuple #[.agg #[str [],.int .i64 0,.int .i64 (-1)],.int .i64 0]) (by simp [results,Tryz.results163,go_sem,f0,f1,f2]) rfl ?_
     rw [HFD.out]
     exact ⟨HCF.out,_,rfl⟩
    | false=>
     have HNX:=Lib.hid (show n∉c.locals.take (k + 1) by
      rw [take_snoc HX.out]
      have : ¬ x=n:=by simpa using hq
      simp only [List.mem_append,List.mem_singleton,not_or]
      exact ⟨HNO.out,fun h=>this h.symm⟩)
     go_wp2_with fail
     exact ⟨⟨k + 1,by go_num,by omega,HC.out,HNX.out⟩,by simp [intOf]; omega⟩
   ·have HNA:=Lib.hid (show n∉c.locals by
     have:=HNO.out
     rwa [List.take_of_length_le (by omega)] at this)
    obtain ⟨wL,hwL⟩ : ∃ x,x=wr:=⟨_,rfl⟩
    subst hwL
    have HC1:=Lib.hid HC.out
    have m2:=(HMB.out.kept HC1.out (by simp)).cell 2 _ rfl
    clear HC HNO
    go_wp2_with fail
    clear m2 hk hlt
    go_loopw [19,69] (fun _ i wr=>∃ k:Nat,i = .int .i64 k∧k≤c.vars.length∧Chg [] w0 wr ∧ ∀ (i:Nat) (x:Glob),i < k→c.vars[i]?=some x→(x.name == n)=false) (fun _ i _=>c.vars.length - (intOf i).toNat)
    case atStart=>exact ⟨0,rfl,Nat.zero_le _,HC1.out,fun i x hi=>by omega⟩
    case round=>
     obtain ⟨k,rfl,hk,hc,hno⟩:=hrel
     have HC:=Lib.hid hc; have HNO:=Lib.hid hno
     clear hc hno
     by_cases hlt : k < c.vars.length
     ·obtain ⟨g,hg⟩ : ∃ x,c.vars[k]?=some x:=⟨c.vars[k],List.getElem?_eq_getElem hlt⟩
      obtain ⟨a,cc,hv,hcl,hrow⟩:=HGV.out
      cases hv
      obtain ⟨b,o,rfl,d0,d1,d2,d3⟩:=glob_cells (hrow.kept HC.out (by simp)) hg
      have HX:=Lib.hid hg
      have hz:=Blk.new wr #[str [],.int .i64 0,.int .i64 0,.bool false] 84
      obtain ⟨wA,hwA⟩ : ∃ x,wr.alloc (.cells #[str [],.int .i64 0,.int .i64 0,.bool false] 84)=x:=⟨_,rfl⟩
      rw [hwA] at hz
      have hcA:Chg [] wr wA:=by rw [← hwA]; exact (Chg.refl _ _).alloc _
      obtain ⟨wG,hwG,hcG,hbG⟩:=set4S (str g.name) (.int .i64 g.pos) (.int .i64 g.len) (.bool g.seen) hz
      have hcw:Chg [] wr wG:=hcA.trans hcG (fun x hx=>.inr (by simp at hx; omega))
      have g0:=hcA.cellSome d0 (by simp); have g1:=hcA.cellSome d1 (by simp); have g2:=hcA.cellSome d2 (by simp); have g3:=hcA.cellSome d3 (by simp)
      have z0:=hz.cell 0 _ rfl; have z1:=hz.cell 1 _ rfl; have z2:=hz.cell 2 _ rfl; have z3:=hz.cell 3 _ rfl
      have y0:=hz.frozen 0; have y1:=hz.frozen 1; have y2:=hz.frozen 2; have y3:=hz.frozen 3
      have x0:=hbG.cell 0 _ rfl; have x2:=hbG.cell 2 _ rfl
      have HCG:=Lib.hid (HC.out.then hcw)
      clear hrow hg hcl hz hcA hcG hbG hcw
      cases hq : (g.name == n) with
      | true=>
       have HFD:=Lib.hid (show c.find p [] n = .is ⟨n,g.len,-1⟩ by
        rw [Env.find,if_neg (by simp),if_neg HNA.out,find_hit HX.out hq HNO.out])
       obtain ⟨wF,hwF,HCF,⟨e0,e1,e2⟩,⟨r0,r1,r2⟩,f0,f1,f2⟩:=HR.out _ HCG.out (str []) (.int .i64 g.len) (.int .i64 (-1))
       go_wp2_with fail
       refine bodyPost_ret (v:=.tuple #[.agg #[str [],.int .i64 g.len,.int .i64 (-1)],.int .i64 0]) (by simp [results,Tryz.results163,go_sem,f0,f1,f2]) rfl ?_
       rw [HFD.out]
       exact ⟨HCF.out,_,rfl⟩
      | false=>
       have HNX:=Lib.hid (show ∀ (i:Nat) (x:Glob),i < k + 1→c.vars[i]?=some x→(x.name == n)=false from fun i x hi hx=>by
        by_cases he : i < k
        ·exact HNO.out i x he hx
        ·have : i=k:=by omega
         subst this
         rw [HX.out] at hx
         cases hx
         exact hq)
       go_wp2_with fail
       exact ⟨⟨k + 1,by go_num,by omega,HCG.out,HNX.out⟩,by simp [intOf]; omega⟩
     ·have HNG:=Lib.hid (show c.vars.find? (fun g=>g.name == n)=none from find_miss fun i x hx=>HNO.out i x (by have:=(List.getElem?_eq_some_iff.1 hx).1; omega) hx)
      obtain ⟨wP,hwP⟩ : ∃ x,x=wr:=⟨_,rfl⟩
      subst hwP
      have HC2:=Lib.hid HC.out
      have m3:=(HMB.out.kept HC2.out (by simp)).cell 3 _ rfl
      clear HC HNO
      go_wp2_with fail
      clear m3 hk hlt
      go_loopw [21,84] (fun _ i wr=>∃ k:Nat,i = .int .i64 k∧k≤c.procs.length∧Chg [] w0 wr ∧ ∀ (i:Nat) (x:Proc),i < k→c.procs[i]?=some x→(x.name == n)=false) (fun _ i _=>c.procs.length - (intOf i).toNat)
      case atStart=>exact ⟨0,rfl,Nat.zero_le _,HC2.out,fun i x hi=>by omega⟩
      case round=>
       obtain ⟨k,rfl,hk,hc,hno⟩:=hrel
       have HC:=Lib.hid hc; have HNO:=Lib.hid hno
       clear hc hno
       by_cases hlt : k < c.procs.length
       ·obtain ⟨x,hx⟩ : ∃ x,c.procs[k]?=some x:=⟨c.procs[k],List.getElem?_eq_getElem hlt⟩
        obtain ⟨b,o,cc,pos,a1,k1,a2,n2,k2,a3,n3,k3,hv,hcl,d0,d1,d2,d3,d4,d5⟩:=proc_cells (HPV.out.kept HC.out (by simp)) hx
        cases hv
        have HX:=Lib.hid hx
        have hz:=Blk.new wr #[str [],.int .i64 0,.bool false,nils,nils,nils] 87
        obtain ⟨wA,hwA⟩ : ∃ x,wr.alloc (.cells #[str [],.int .i64 0,.bool false,nils,nils,nils] 87)=x:=⟨_,rfl⟩
        rw [hwA] at hz
        have hcA:Chg [] wr wA:=by rw [← hwA]; exact (Chg.refl _ _).alloc _
        obtain ⟨wG,hwG,hcG,hbG⟩:=set6S (str x.name) (.int .i64 pos) (.bool x.seen) (.slice a1 x.params.length k1) (.slice a2 n2 k2) (.slice a3 n3 k3) hz
        have hcw:Chg [] wr wG:=hcA.trans hcG (fun x hx=>.inr (by simp at hx; omega))
        have g0:=hcA.cellSome d0 (by simp); have g1:=hcA.cellSome d1 (by simp); have g2:=hcA.cellSome d2 (by simp); have g3:=hcA.cellSome d3 (by simp); have g4:=hcA.cellSome d4 (by simp); have g5:=hcA.cellSome d5 (by simp)
        have z0:=hz.cell 0 _ rfl; have z1:=hz.cell 1 _ rfl; have z2:=hz.cell 2 _ rfl; have z3:=hz.cell 3 _ rfl; have z4:=hz.cell 4 _ rfl; have z5:=hz.cell 5 _ rfl
        have y0:=hz.frozen 0; have y1:=hz.frozen 1; have y2:=hz.frozen 2; have y3:=hz.frozen 3; have y4:=hz.frozen 4; have y5:=hz.frozen 5
        have x0:=hbG.cell 0 _ rfl; have x3:=hbG.cell 3 _ rfl
        have HCG:=Lib.hid (HC.out.then hcw)
        clear hx hcl hz hcA hcG hbG hcw
        cases hq : (x.name == n) with
        | true=>
         have HFD:=Lib.hid (show c.find p [] n = .is ⟨n,0,x.params.length⟩ by
          rw [Env.find,if_neg (by simp),if_neg HNA.out,HNG.out]
          show (match c.procs.find? fun x=>x.name == n with | some x=>Got.is ⟨n,0,x.params.length⟩ | none=>.bad 7 p)=_
          rw [find_hit HX.out hq HNO.out])
         obtain ⟨wF,hwF,HCF,⟨e0,e1,e2⟩,⟨r0,r1,r2⟩,f0,f1,f2⟩:=HR.out _ HCG.out (str []) (.int .i64 0) (.int .i64 x.params.length)
         go_wp2_with fail
         refine bodyPost_ret (v:=.tuple #[.agg #[str [],.int .i64 0,.int .i64 x.params.length],.int .i64 0]) (by simp [results,Tryz.results163,go_sem,f0,f1,f2]) rfl ?_
         rw [HFD.out]
         exact ⟨HCF.out,_,rfl⟩
        | false=>
         have HNX:=Lib.hid (show ∀ (i:Nat) (x:Proc),i < k + 1→c.procs[i]?=some x→(x.name == n)=false from fun i x hi hx=>by
          by_cases he : i < k
          ·exact HNO.out i x he hx
          ·have : i=k:=by omega
           subst this
           rw [HX.out] at hx
           cases hx
           exact hq)
         go_wp2_with fail
         exact ⟨⟨k + 1,by go_num,by omega,HCG.out,HNX.out⟩,by simp [intOf]; omega⟩
       ·have HFD:=Lib.hid (show c.find p [] n = .bad 7 p by
         rw [Env.find,if_neg (by simp),if_neg HNA.out,HNG.out]
         show (match c.procs.find? fun x=>x.name == n with | some x=>Got.is ⟨n,0,x.params.length⟩ | none=>.bad 7 p)=_
         rw [find_miss fun i x hx=>HNO.out i x (by have:=(List.getElem?_eq_some_iff.1 hx).1; omega) hx])
        obtain ⟨wF,hwF,HCF,⟨e0,e1,e2⟩,⟨r0,r1,r2⟩,f0,f1,f2⟩:=HR.out _ HC.out (str []) (.int .i64 0) (.int .i64 0)
        go_wp2_with fail
        refine bodyPost_ret (v:=.tuple #[.agg #[str [],.int .i64 0,.int .i64 0],.int .i64 7]) (by simp [results,Tryz.results163,go_sem,f0,f1,f2]) rfl ?_
        rw [HFD.out]
        exact ⟨HCF.out,rfl⟩
 ·have hme : (m == [])=false:=by simpa using hm
  have hmi : m.isEmpty=false:=by simpa using hm
  have HM:=Lib.hid hm
  clear m2 m3
  go_enter Tryz.func163,Tryz.ntmps163
  go_wp2_with fail
  clear hwm hw0 m1 hm
  go_loopw [12,14,27] (fun q _ i wr=>∃ k:Nat,i = .int .i64 k∧k≤c.imports.length∧Chg [] w0 wr∧q = .bool (decide (m∈c.imports.take k))) (fun _ _ i _=>c.imports.length - (intOf i).toNat)
  case atStart=>exact ⟨0,rfl,Nat.zero_le _,Chg.refl _ _,by simp⟩
  case round=>
   obtain ⟨k,rfl,hk,hc,rfl⟩:=hrel
   have HC:=Lib.hid hc
   clear hc
   by_cases hlt : k < c.imports.length
   ·obtain ⟨x,hx⟩ : ∃ x,c.imports[k]?=some x:=⟨c.imports[k],List.getElem?_eq_getElem hlt⟩
    obtain ⟨a,cc,hv,hcl,hrow⟩:=HNI.out
    cases hv
    obtain ⟨b,o,rfl,d0⟩:=names_cell (hrow.kept HC.out (by simp)) hx
    have HNX:=Lib.hid (show (decide (m∈c.imports.take (k + 1)))=(decide (m∈c.imports.take k) || (x == m)) by
     rw [take_snoc hx]
     by_cases h1 : m∈c.imports.take k
     ·simp [h1]
     ·by_cases h2 : x=m
      ·simp [h2]
      ·have h3 : ¬ m=x:=fun h=>h2 h.symm
       simp [h1,h2,h3])
    clear hrow hx hcl
    obtain ⟨q,hq⟩ : ∃ q,q=decide (m∈c.imports.take k):=⟨_,rfl⟩
    rw [← hq] at HNX ⊢
    clear hq
    obtain ⟨r,hr⟩ : ∃ r,(x == m)=r:=⟨_,rfl⟩
    rw [hr] at HNX
    cases q <;> cases r
    all_goals
     go_wp2_with fail
     exact ⟨⟨k + 1,by go_num,by omega,HC.out,by rw [HNX.out]; rfl⟩,by simp [intOf]; omega⟩
   ·have HTK:=Lib.hid (show c.imports.take k=c.imports from List.take_of_length_le (by omega))
    rw [HTK.out]
    cases hq : decide (m∈c.imports) with
    | false=>
     have HFD:=Lib.hid (show c.find p m n = .bad 5 p by
      rw [Env.find,if_pos HM.out,if_pos (by simpa using hq)])
     clear hq
     obtain ⟨wF,hwF,HCF,⟨e0,e1,e2⟩,⟨r0,r1,r2⟩,f0,f1,f2⟩:=HR.out _ HC.out (str []) (.int .i64 0) (.int .i64 0)
     go_wp2_with fail
     refine bodyPost_ret (v:=.tuple #[.agg #[str [],.int .i64 0,.int .i64 0],.int .i64 5]) (by simp [results,Tryz.results163,go_sem,f0,f1,f2]) rfl ?_
     rw [HFD.out]
     exact ⟨HCF.out,rfl⟩
    | true=>
     have HQ:=Lib.hid (show ¬ m∉c.imports by simpa using hq)
     clear hq
     obtain ⟨u,hlk,_,hul,hus⟩:=look_seen (HSV.out.kept HC.out (by simp)) m
     have hl1:=hlk wr (Chg.refl _ _)
     have HLK:=Lib.hid hlk; have HUL:=hul
     have HFI:=Lib.hid (rfind_any _ hul n F u wr hus)
     obtain ⟨l,hle⟩ : ∃ l,l=(c.seen m).getD []:=⟨_,rfl⟩
     rw [← hle] at hus HFI HUL
     have HLE:=Lib.hid hle; have HUS:=Lib.hid hus
     clear hlk hul hle hus
     cases hf : findS l n with
     | none=>
      have HFD:=Lib.hid (show c.find p m n = .bad 7 p by
       rw [Env.find,if_pos HM.out,if_neg HQ.out,← HLE.out,hf])
      have hfi : findI l n = -1:=by rw [findI,hf]
      rw [hfi] at HFI
      clear hf hfi
      go_wp2_with fail
      refine HFI.out.mono ?_; rintro _ w2 ⟨rfl,hc2⟩
      obtain ⟨wF,hwF,HCF,⟨e0,e1,e2⟩,⟨r0,r1,r2⟩,f0,f1,f2⟩:=HR.out _ (HC.out.then hc2) (str []) (.int .i64 0) (.int .i64 0)
      clear hc2
      go_wp2_with fail
      refine bodyPost_ret (v:=.tuple #[.agg #[str [],.int .i64 0,.int .i64 0],.int .i64 7]) (by simp [results,Tryz.results163,go_sem,f0,f1,f2]) rfl ?_
      rw [HFD.out]
      exact ⟨HCF.out,rfl⟩
     | some j=>
      have hjl:=findS_lt hf
      have HFD:=Lib.hid (show c.find p m n = .is (l.getD j Sy.none) by
       rw [Env.find,if_pos HM.out,if_neg HQ.out,← HLE.out,hf])
      have hfi : findI l n=j:=by rw [findI,hf]
      rw [hfi] at HFI
      obtain ⟨s,hs⟩ : ∃ s,l[j]?=some s:=⟨l[j],List.getElem?_eq_getElem hjl⟩
      have HSE:=Lib.hid (show l.getD j Sy.none=s by rw [List.getD_eq_getElem?_getD,hs]; rfl)
      clear hf hfi
      go_wp2_with fail
      refine HFI.out.mono ?_; rintro _ w2 ⟨rfl,hc2⟩
      have HC2:=Lib.hid (HC.out.then hc2)
      have hl2:=HLK.out w2 hc2
      obtain ⟨a,cc,rfl,hac,hrow,_⟩:=HUS.out
      obtain ⟨bb,off,rfl,d0,d1,d2⟩:=sy_cells3 (hrow.kept hc2 (by simp)) hs
      obtain ⟨wF,hwF,HCF,⟨e0,e1,e2⟩,⟨r0,r1,r2⟩,f0,f1,f2⟩:=HR.out _ HC2.out (str s.name) (.int .i64 s.len) (.int .i64 s.args)
      clear hc2 hs hrow hl1
      go_wp2_with fail
      refine bodyPost_ret (v:=.tuple #[.agg #[str s.name,.int .i64 s.len,.int .i64 s.args],.int .i64 0]) (by simp [results,Tryz.results163,go_sem,f0,f1,f2]) rfl ?_
      rw [HFD.out,HSE.out]
      exact ⟨HCF.out,_,rfl⟩
end Go.Proofs.YtojkkgghndeimaaGreatDoor
namespace Go.Mq.Check
open Go Go.RowKit Go.Mq Go.Mq.Tree Go.Mq.Sym Go.Mq.Ref
def judgeB (c:Env) (t p:Nat) (m n:List UInt8) (k:Nat):Look:=
 if t=2 then nameL c p m n fun s=>if 0≤s.args∨0 < s.len then some (1,p) else none
 else if t=3 then nameL c p m n fun s=>if 0≤s.args∨¬ 0 < s.len then some (1,p) else none
 else if t=6 then nameL c p m n fun s=>if ¬ 0≤s.args then some (1,p) else if (k:Int)≠s.args then some (2,p) else none
 else none
abbrev faultV (l:Look):Value:=.agg #[num (badE l),num (badP l)]
theorem find_bad {c:Env} {p:Nat} {m n:List UInt8} {e q:Nat} (h : c.find p m n = .bad e q) : q=p∧e≠0:=by
 rw [Env.find] at h
 split at h
 ·split at h
  ·cases h; exact ⟨rfl,by omega⟩
  ·split at h
   ·cases h; exact ⟨rfl,by omega⟩
   ·cases h
 ·split at h
  ·cases h
  ·split at h
   ·cases h
   ·split at h
    ·cases h
    ·cases h; exact ⟨rfl,by omega⟩
def gotE:Got→Int
 | .bad e _=>e
 | .is _=>0
def gotL:Got→Int
 | .bad _ _=>0
 | .is s=>s.len
def gotA:Got→Int
 | .bad _ _=>0
 | .is s=>s.args
theorem Stood.val {w w':World} {g:Got} {e:Ending} (h:Stood w g e w') : ∃ nm:List UInt8,e = .returned (.tuple #[.agg #[str nm,num (gotL g),num (gotA g)],num (gotE g)])∧Chg [] w w':=by
 obtain ⟨h1,h2⟩:=h
 cases g with
 | bad e q=>exact ⟨[],h2,h1⟩
 | is s=>obtain ⟨nm,h2⟩:=h2; exact ⟨nm,h2,h1⟩
theorem ft2 (w:World) {w0:World} {b:Nat} {u0 u1:Value} {t:TypeId} (hz:Blk w0 b #[u0,u1] t) (hc0:Chg [] w w0) (hb : w.heap.size≤b) {wr:World} (hc:Chg [] w0 wr) (x y:Value) :
  ∃ wF,((wr.setCell ⟨b,0,none⟩ x).setCell ⟨b,1,none⟩ y)=wF∧Hid (Chg [] w wF)∧(wr.cell? ⟨b,0,none⟩=some u0∧wr.cell? ⟨b,1,none⟩=some u1)∧(wr.frozen? ⟨b,0,none⟩=false∧wr.frozen? ⟨b,1,none⟩=false)∧wF.cell? ⟨b,0,none⟩=some x∧wF.cell? ⟨b,1,none⟩=some y:=by
 have hr:=hz.kept hc (by simp)
 have hF:Blk ((wr.setCell ⟨b,0,none⟩ x).setCell ⟨b,1,none⟩ y) b #[x,y] t:=by have:=(hr.set 0 x).set 1 y; simpa using this
 exact ⟨_,rfl,Lib.hid ((hc0.then hc).trans ((Chg.set1 wr b 0 x).then (Chg.set1 _ b 1 y)) (fun i hi=>.inr (by simp at hi; omega))),⟨hr.cell 0 _ rfl,hr.cell 1 _ rfl⟩,⟨hr.frozen 0,hr.frozen 1⟩,hF.cell 0 _ rfl,hF.cell 1 _ rfl⟩
end Go.Mq.Check
namespace Go.Proofs.YtojkkgghndeimaaGreatDoor
open Go Go.RowKit Go.Mq Go.Mq.Tree Go.Mq.Sym Go.Mq.Check Go.Mq.Ref
set_option maxRecDepth 100000
set_option maxHeartbeats 4000000
theorem rjudge_any (c:Env) (F:Nat→Prop) (w:World) (v vo vm:Value) (hE:REnv w F c v vo vm) (B:Nat) (hL:RLaid w B) (t p:Nat) (ht : (t=1∨t=4∨t=5)∨t=2∨t=3∨t=6) (m n:List UInt8) (b:Nat) (c2 c5 c6 c7:Value) (a:Option Addr) (k kk:Nat) (hk : k≤1000000)
  (hx:Blk w b #[.int .i64 t,.int .i64 p,c2,str m,str n,c5,c6,c7,.slice a k kk] 155) :
  Calls Tryz.prog 118 #[v,vo,vm,ptr b] w (fun e w'=>e = .returned (faultV (judgeB c t p m n k))∧Chg [] w w'):=by
 obtain ⟨tgt,htgt⟩ : ∃ x,x=judgeB c t p m n k:=⟨_,rfl⟩
 rw [← htgt]
 have HTG:=Lib.hid htgt
 have HST:=Lib.hid (fun (w':World) (hc:Chg [] w w')=>rstands_any c p m n F w' v vo vm (hE.kept hc (by simp)))
 obtain ⟨nm,ai,ci,av,cv,ap,cp,ab,nb,cb,al,cl,om,rfl,rfl,rfl,_,_,_,_,_⟩:=hE.at_
 obtain ⟨wm,hwm⟩ : ∃ x,w.alloc (.cells #[str nm,.slice ai c.imports.length ci,.slice av c.vars.length cv,.slice ap c.procs.length cp,.slice ab nb cb] 31)=x:=⟨_,rfl⟩
 have hmb:=Blk.new w #[str nm,.slice ai c.imports.length ci,.slice av c.vars.length cv,.slice ap c.procs.length cp,.slice ab nb cb] 31
 have hcm:Chg [] w wm:=by rw [← hwm]; exact (Chg.refl _ _).alloc _
 have hsm : wm.heap.size=w.heap.size + 1:=by rw [← hwm]; simp
 rw [hwm] at hmb
 obtain ⟨w0,hw0⟩ : ∃ x,wm.alloc (.cells #[num 0,num 0] 34)=x:=⟨_,rfl⟩
 have heb:=Blk.new wm #[num 0,num 0] 34
 have hc0:Chg [] wm w0:=by rw [← hw0]; exact (Chg.refl _ _).alloc _
 rw [hw0] at heb
 have hcw:=hcm.then hc0
 have HMB:=Lib.hid (hmb.kept hc0 (by simp)); have HX:=Lib.hid (hx.kept hcw (by simp)); have HL:=Lib.hid (hL.kept hcw (by simp))
 have HR:=Lib.hid (fun (wr:World) (hc:Chg [] w0 wr) (x y:Value)=>ft2 w heb hcw (by omega) hc x y)
 have HCW:=Lib.hid hcw
 clear hmb heb hcm hc0 hcw hsm hE hx hL htgt
 rcases ht with ht | ht
 ·have x0:=HX.out.cell 0 _ rfl
  obtain ⟨wF,hwF,HCF,⟨e0,e1⟩,⟨r0,r1⟩,f0,f1⟩:=HR.out _ (Chg.refl _ _) (num 0) (num (-1))
  have g0:=HL.out.fine0; have g1:=HL.out.fine1
  have HT:=Lib.hid (show tgt=none by rw [HTG.out,judgeB]; rcases ht with rfl | rfl | rfl <;> rfl)
  rcases ht with rfl | rfl | rfl
  all_goals
   go_enter Tryz.func118,Tryz.ntmps118
   go_wp2_with fail
   refine bodyPost_ret (v:=.agg #[num 0,num (-1)]) (by simp [results,Tryz.results118,go_sem,f0,f1]) rfl ?_
   exact ⟨by rw [HT.out] <;> rfl,HCF.out⟩
 ·obtain ⟨wD,hwD⟩ : ∃ x,x=w0.drew:=⟨_,rfl⟩
  have hcD:Chg [] w0 wD:=by rw [hwD]; exact (Chg.refl [] w0).drew
  have HXD:=Lib.hid (HX.out.kept hcD (by simp)); have HMD:=Lib.hid (HMB.out.kept hcD (by simp)); have HCD:=Lib.hid (HCW.out.then hcD); have HCD0:=Lib.hid hcD
  have hz:=Blk.new wD #[str [],num 0,num 0] 106
  obtain ⟨wA,hwA⟩ : ∃ x,wD.alloc (.cells #[str [],num 0,num 0] 106)=x:=⟨_,rfl⟩
  rw [hwA] at hz
  have hcA:Chg [] wD wA:=by rw [← hwA]; exact (Chg.refl _ _).alloc _
  have HZA:=Lib.hid hz; have HCA:=Lib.hid hcA
  clear hz hcA hcD
  obtain ⟨g,hg⟩ : ∃ g,g=c.find p m n:=⟨_,rfl⟩
  rw [← hg] at HST
  have HG:=Lib.hid hg
  clear hg
  obtain ⟨gl,hgl⟩ : ∃ x,x=gotL g:=⟨_,rfl⟩
  obtain ⟨ga,hga⟩ : ∃ x,x=gotA g:=⟨_,rfl⟩
  obtain ⟨ge,hge⟩ : ∃ x,x=gotE g:=⟨_,rfl⟩
  have HCALL:=Lib.hid (show ∀ w',Chg [] w w'→Calls Tryz.prog 163 #[.agg #[str nm,.slice ai c.imports.length ci,.slice av c.vars.length cv,.slice ap c.procs.length cp,.slice ab nb cb],.slice al c.locals.length cl,.map om,str m,str n] w' (fun e w''=>∃ nm:List UInt8,e = .returned (.tuple #[.agg #[str nm,num gl,num ga],num ge])∧Chg [] w' w'') from fun w' hc=>(HST.out w' hc).mono fun e w'' h=>by
   rw [hgl,hga,hge]; exact h.val)
  have HGL:=Lib.hid hgl; have HGA:=Lib.hid hga; have HGE:=Lib.hid hge
  clear hgl hga hge HST
  rcases ht with rfl | rfl | rfl
  ·have x0:=HX.out.cell 0 _ rfl
   go_enter Tryz.func118,Tryz.ntmps118
   go_upto_region 3 with fail
   clear x0
   go_cut [9,10] (fun s9 s10 wx=>∃ (bz:Nat) (nz:List UInt8),s9=ptr bz∧s10=num ge∧Blk wx bz #[str nz,num gl,num ga] 106∧Chg [] wD wx)
   case first=>
    clear hwm hw0
    have x3:=HXD.out.cell 3 _ rfl; have x4:=HXD.out.cell 4 _ rfl
    obtain ⟨m0,m1,m2,m3,m4⟩:=HMD.out.five
    refine wp_region_J isEff [] 15 11 rfl (by kernel_rfl) (by kernel_rfl) (by kernel_rfl) ?_ ?_
    all_goals refine (?_ : wpX _ _ _ _ _ [_,_,_,_,_,_,_,_,_,_,_,_,_,_,_,_,_,_] _ _)
    all_goals rw [← hwD]
    all_goals clear hwD
    ·have hS:Chg [] wD wD:=Chg.refl _ _
     have k3:=HCA.out.cellSome x3 (by simp); have k4:=HCA.out.cellSome x4 (by simp)
     have n0:=HCA.out.cellSome m0 (by simp); have n1:=HCA.out.cellSome m1 (by simp); have n2:=HCA.out.cellSome m2 (by simp); have n3:=HCA.out.cellSome m3 (by simp); have n4:=HCA.out.cellSome m4 (by simp)
     have hS2:=HCA.out
     repeat ((with_reducible refine gX ?_); (first | refine wpX_nil ?_ | refine sK ?_ | refine sM fun _ _=>?_ | refine sL fun _ _=>?_ | refine sE fun _ _=>?_); go_wp2_with fail)
     refine And.intro HCA.out ?_
     repeat ((with_reducible refine gX ?_); (first | refine wpX_nil ?_ | refine sK ?_ | refine sM fun _ _=>?_ | refine sL fun _ _=>?_ | refine sE fun _ _=>?_); go_wp2_with fail)
     refine (HCALL.out _ (HCD.out.then HCA.out)).mono ?_; rintro _ w2 ⟨nz,rfl,hc2⟩
     have hb2:=HZA.out.kept hc2 (by simp)
     obtain ⟨wF,hwF,hcF,hbF⟩:=set3 (str nz) (num gl) (num ga) hb2
     have hcF2:=(HCA.out.then hc2).trans hcF (fun i hi=>.inr (by simp at hi; omega))
     have HBF:=Lib.hid hbF; have HCF:=Lib.hid hcF2
     have z0:=hb2.cell 0 _ rfl; have z1:=hb2.cell 1 _ rfl; have z2:=hb2.cell 2 _ rfl; have y0:=hb2.frozen 0; have y1:=hb2.frozen 1; have y2:=hb2.frozen 2
     have hS3:Chg [] wD w2:=HCA.out.then hc2
     clear k3 k4 n0 n1 n2 n3 n4 x3 x4 m0 m1 m2 m3 m4 hbF hcF hb2 hcF2
     go_wp2_with fail
     refine And.intro hS3 ?_
     repeat ((with_reducible refine gX ?_); (first | refine wpX_nil ?_ | refine sK ?_ | refine sM fun _ _=>?_ | refine sL fun _ _=>?_ | refine sE fun _ _=>?_); go_wp2_with fail)
     refine And.intro HCF.out ?_
     have hS4:=HCF.out
     repeat ((with_reducible refine gX ?_); (first | refine wpX_nil ?_ | refine sK ?_ | refine sM fun _ _=>?_ | refine sL fun _ _=>?_ | refine sE fun _ _=>?_); go_wp2_with fail)
     go_meet
     exact ⟨_,nz,rfl,rfl,HBF.out,HCF.out⟩
    ·have hS:Chg [] wD wD:=Chg.refl _ _
     repeat ((with_reducible refine gX ?_); (first | refine wpX_nil ?_ | refine sK ?_ | refine sM fun _ _=>?_ | refine sL fun _ _=>?_ | refine sE fun _ _=>?_); go_wp2_with fail)
     refine (HCALL.out _ HCD.out).mono ?_; rintro _ w2 ⟨nz,rfl,hc2⟩
     have hz:=Blk.new w2 #[str [],num 0,num 0] 106
     obtain ⟨wB,hwB⟩ : ∃ x,w2.alloc (.cells #[str [],num 0,num 0] 106)=x:=⟨_,rfl⟩
     rw [hwB] at hz
     have hcB:Chg [] w2 wB:=by rw [← hwB]; exact (Chg.refl _ _).alloc _
     obtain ⟨wF,hwF,hcF,hbF⟩:=set3 (str nz) (num gl) (num ga) hz
     have hsz:=hc2.size
     have hcF2:=(hc2.then hcB).trans hcF (fun i hi=>.inr (by simp at hi; omega))
     have HBF:=Lib.hid hbF; have HCF:=Lib.hid hcF2
     have z0:=hz.cell 0 _ rfl; have z1:=hz.cell 1 _ rfl; have z2:=hz.cell 2 _ rfl; have y0:=hz.frozen 0; have y1:=hz.frozen 1; have y2:=hz.frozen 2
     have hS3:Chg [] wD w2:=hc2
     have hS5:Chg [] wD wB:=hc2.then hcB
     clear x3 x4 m0 m1 m2 m3 m4 hbF hcF hz hcF2 hsz hcB
     go_wp2_with fail
     refine And.intro hS3 ?_
     repeat ((with_reducible refine gX ?_); (first | refine wpX_nil ?_ | refine sK ?_ | refine sM fun _ _=>?_ | refine sL fun _ _=>?_ | refine sE fun _ _=>?_); go_wp2_with fail)
     refine And.intro hS5 ?_
     repeat ((with_reducible refine gX ?_); (first | refine wpX_nil ?_ | refine sK ?_ | refine sM fun _ _=>?_ | refine sL fun _ _=>?_ | refine sE fun _ _=>?_); go_wp2_with fail)
     refine And.intro HCF.out ?_
     have hS4:=HCF.out
     repeat ((with_reducible refine gX ?_); (first | refine wpX_nil ?_ | refine sK ?_ | refine sM fun _ _=>?_ | refine sL fun _ _=>?_ | refine sE fun _ _=>?_); go_wp2_with fail)
     go_meet
     exact ⟨_,nz,rfl,rfl,HBF.out,HCF.out⟩
   case rest=>
    obtain ⟨bz,nz,rfl,rfl,hblk,hcx⟩:=hcut
    obtain ⟨w3,h⟩ : ∃ x,x=wc:=⟨_,rfl⟩
    subst h
    have HBZ:=Lib.hid hblk; have HC3:=Lib.hid (HCD0.out.then hcx)
    have HX3:=Lib.hid (HX.out.kept HC3.out (by simp)); have HL3:=Lib.hid (HL.out.kept HC3.out (by simp))
    clear hblk hcx hwD hwA hwm hw0
    cases g with
    | bad e q=>
     obtain ⟨rfl,hne⟩:=find_bad HG.out.symm
     obtain rfl:=HGE.out
     have hn1 : ((e:Int) == 0)=false:=by simp; omega
     have hn2 : ¬ (e:Int)=0:=by omega
     have x1:=HX3.out.cell 1 _ rfl
     have HT:=Lib.hid (show tgt=some (e,q) by rw [HTG.out,judgeB]; simp only [nameL,← HG.out]; rfl)
     obtain ⟨wF,hwF,HCF,⟨e0,e1⟩,⟨r0,r1⟩,f0,f1⟩:=HR.out _ HC3.out (num e) (num q)
     change _ at hn1
     simp only [gotE] at *
     go_wp2_with fail
     refine bodyPost_ret (v:=.agg #[num e,num q]) (by simp [results,Tryz.results118,go_sem,f0,f1]) rfl ?_
     exact ⟨by rw [HT.out] <;> rfl,HCF.out⟩
    | is s=>
     have hge : ge=0:=HGE.out
     have hgl : gl=s.len:=HGL.out
     have hga : ga=s.args:=HGA.out
     subst hge hgl hga
     have x0:=HX3.out.cell 0 _ rfl; have x1:=HX3.out.cell 1 _ rfl
     obtain ⟨s0,s1,s2⟩:=HBZ.out.three
     by_cases h0 : 0≤s.args
     ·have HT:=Lib.hid (show tgt=some (1,p) by rw [HTG.out,judgeB]; simp only [nameL,← HG.out]; simp [h0])
      obtain ⟨wF,hwF,HCF,⟨e0,e1⟩,⟨r0,r1⟩,f0,f1⟩:=HR.out _ HC3.out (num 1) (num p)
      go_wp2_with fail
      refine bodyPost_ret (v:=.agg #[num 1,num p]) (by simp [results,Tryz.results118,go_sem,f0,f1]) rfl ?_
      exact ⟨by rw [HT.out] <;> rfl,HCF.out⟩
     by_cases h1 : 0 < s.len
     ·have HT:=Lib.hid (show tgt=some (1,p) by rw [HTG.out,judgeB]; simp only [nameL,← HG.out]; simp [h0,h1])
      obtain ⟨wF,hwF,HCF,⟨e0,e1⟩,⟨r0,r1⟩,f0,f1⟩:=HR.out _ HC3.out (num 1) (num p)
      go_wp2_with fail
      refine bodyPost_ret (v:=.agg #[num 1,num p]) (by simp [results,Tryz.results118,go_sem,f0,f1]) rfl ?_
      exact ⟨by rw [HT.out] <;> rfl,HCF.out⟩
     have g0:=HL3.out.fine0; have g1:=HL3.out.fine1
     have HT:=Lib.hid (show tgt=none by rw [HTG.out,judgeB]; simp only [nameL,← HG.out]; simp [h0,h1])
     go_wp2_with fail
     obtain ⟨wE,hwE⟩ : ∃ x,x=w3.drew:=⟨_,rfl⟩
     have hcE:Chg [] w3 wE:=by rw [hwE]; exact (Chg.refl [] w3).drew
     have HCE:=Lib.hid (HC3.out.then hcE)
     refine wp_region_C [] rfl (by kernel_rfl) ?_
     rw [← hwE]
     clear hwE
     have hS:Chg [] wE wE:=Chg.refl _ _
     have g0:=hcE.cellSome g0 (by simp); have g1:=hcE.cellSome g1 (by simp); have x1:=hcE.cellSome x1 (by simp)
     obtain ⟨wF,hwF,HCF,⟨e0,e1⟩,⟨r0,r1⟩,f0,f1⟩:=HR.out _ HCE.out (num 0) (num (-1))
     repeat ((with_reducible refine gX ?_); (first | refine wpX_nil ?_ | refine sK ?_ | refine sM fun _ _=>?_ | refine sL fun _ _=>?_ | refine sE fun _ _=>?_); go_wp2_with fail)
     clear hS
     go_wp2_with fail
     refine bodyPost_ret (v:=.agg #[num 0,num (-1)]) (by simp [results,Tryz.results118,go_sem,f0,f1]) rfl ?_
     exact ⟨by rw [HT.out] <;> rfl,HCF.out⟩
  ·have x0:=HX.out.cell 0 _ rfl
   go_enter Tryz.func118,Tryz.ntmps118
   go_upto_region 3 with fail
   clear x0
   go_cut [9,10] (fun s9 s10 wx=>∃ (bz:Nat) (nz:List UInt8),s9=ptr bz∧s10=num ge∧Blk wx bz #[str nz,num gl,num ga] 106∧Chg [] wD wx)
   case first=>
    clear hwm hw0
    have x3:=HXD.out.cell 3 _ rfl; have x4:=HXD.out.cell 4 _ rfl
    obtain ⟨m0,m1,m2,m3,m4⟩:=HMD.out.five
    refine wp_region_J isEff [] 15 11 rfl (by kernel_rfl) (by kernel_rfl) (by kernel_rfl) ?_ ?_
    all_goals refine (?_ : wpX _ _ _ _ _ [_,_,_,_,_,_,_,_,_,_,_,_,_,_,_,_,_,_] _ _)
    all_goals rw [← hwD]
    all_goals clear hwD
    ·have hS:Chg [] wD wD:=Chg.refl _ _
     have k3:=HCA.out.cellSome x3 (by simp); have k4:=HCA.out.cellSome x4 (by simp)
     have n0:=HCA.out.cellSome m0 (by simp); have n1:=HCA.out.cellSome m1 (by simp); have n2:=HCA.out.cellSome m2 (by simp); have n3:=HCA.out.cellSome m3 (by simp); have n4:=HCA.out.cellSome m4 (by simp)
     have hS2:=HCA.out
     repeat ((with_reducible refine gX ?_); (first | refine wpX_nil ?_ | refine sK ?_ | refine sM fun _ _=>?_ | refine sL fun _ _=>?_ | refine sE fun _ _=>?_); go_wp2_with fail)
     refine And.intro HCA.out ?_
     repeat ((with_reducible refine gX ?_); (first | refine wpX_nil ?_ | refine sK ?_ | refine sM fun _ _=>?_ | refine sL fun _ _=>?_ | refine sE fun _ _=>?_); go_wp2_with fail)
     refine (HCALL.out _ (HCD.out.then HCA.out)).mono ?_; rintro _ w2 ⟨nz,rfl,hc2⟩
     have hb2:=HZA.out.kept hc2 (by simp)
     obtain ⟨wF,hwF,hcF,hbF⟩:=set3 (str nz) (num gl) (num ga) hb2
     have hcF2:=(HCA.out.then hc2).trans hcF (fun i hi=>.inr (by simp at hi; omega))
     have HBF:=Lib.hid hbF; have HCF:=Lib.hid hcF2
     have z0:=hb2.cell 0 _ rfl; have z1:=hb2.cell 1 _ rfl; have z2:=hb2.cell 2 _ rfl; have y0:=hb2.frozen 0; have y1:=hb2.frozen 1; have y2:=hb2.frozen 2
     have hS3:Chg [] wD w2:=HCA.out.then hc2
     clear k3 k4 n0 n1 n2 n3 n4 x3 x4 m0 m1 m2 m3 m4 hbF hcF hb2 hcF2
     go_wp2_with fail
     refine And.intro hS3 ?_
     repeat ((with_reducible refine gX ?_); (first | refine wpX_nil ?_ | refine sK ?_ | refine sM fun _ _=>?_ | refine sL fun _ _=>?_ | refine sE fun _ _=>?_); go_wp2_with fail)
     refine And.intro HCF.out ?_
     have hS4:=HCF.out
     repeat ((with_reducible refine gX ?_); (first | refine wpX_nil ?_ | refine sK ?_ | refine sM fun _ _=>?_ | refine sL fun _ _=>?_ | refine sE fun _ _=>?_); go_wp2_with fail)
     go_meet
     exact ⟨_,nz,rfl,rfl,HBF.out,HCF.out⟩
    ·have hS:Chg [] wD wD:=Chg.refl _ _
     repeat ((with_reducible refine gX ?_); (first | refine wpX_nil ?_ | refine sK ?_ | refine sM fun _ _=>?_ | refine sL fun _ _=>?_ | refine sE fun _ _=>?_); go_wp2_with fail)
     refine (HCALL.out _ HCD.out).mono ?_; rintro _ w2 ⟨nz,rfl,hc2⟩
     have hz:=Blk.new w2 #[str [],num 0,num 0] 106
     obtain ⟨wB,hwB⟩ : ∃ x,w2.alloc (.cells #[str [],num 0,num 0] 106)=x:=⟨_,rfl⟩
     rw [hwB] at hz
     have hcB:Chg [] w2 wB:=by rw [← hwB]; exact (Chg.refl _ _).alloc _
     obtain ⟨wF,hwF,hcF,hbF⟩:=set3 (str nz) (num gl) (num ga) hz
     have hsz:=hc2.size
     have hcF2:=(hc2.then hcB).trans hcF (fun i hi=>.inr (by simp at hi; omega))
     have HBF:=Lib.hid hbF; have HCF:=Lib.hid hcF2
     have z0:=hz.cell 0 _ rfl; have z1:=hz.cell 1 _ rfl; have z2:=hz.cell 2 _ rfl; have y0:=hz.frozen 0; have y1:=hz.frozen 1; have y2:=hz.frozen 2
     have hS3:Chg [] wD w2:=hc2
     have hS5:Chg [] wD wB:=hc2.then hcB
     clear x3 x4 m0 m1 m2 m3 m4 hbF hcF hz hcF2 hsz hcB
     go_wp2_with fail
     refine And.intro hS3 ?_
     repeat ((with_reducible refine gX ?_); (first | refine wpX_nil ?_ | refine sK ?_ | refine sM fun _ _=>?_ | refine sL fun _ _=>?_ | refine sE fun _ _=>?_); go_wp2_with fail)
     refine And.intro hS5 ?_
     repeat ((with_reducible refine gX ?_); (first | refine wpX_nil ?_ | refine sK ?_ | refine sM fun _ _=>?_ | refine sL fun _ _=>?_ | refine sE fun _ _=>?_); go_wp2_with fail)
     refine And.intro HCF.out ?_
     have hS4:=HCF.out
     repeat ((with_reducible refine gX ?_); (first | refine wpX_nil ?_ | refine sK ?_ | refine sM fun _ _=>?_ | refine sL fun _ _=>?_ | refine sE fun _ _=>?_); go_wp2_with fail)
     go_meet
     exact ⟨_,nz,rfl,rfl,HBF.out,HCF.out⟩
   case rest=>
    obtain ⟨bz,nz,rfl,rfl,hblk,hcx⟩:=hcut
    obtain ⟨w3,h⟩ : ∃ x,x=wc:=⟨_,rfl⟩
    subst h
    have HBZ:=Lib.hid hblk; have HC3:=Lib.hid (HCD0.out.then hcx)
    have HX3:=Lib.hid (HX.out.kept HC3.out (by simp)); have HL3:=Lib.hid (HL.out.kept HC3.out (by simp))
    clear hblk hcx hwD hwA hwm hw0
    cases g with
    | bad e q=>
     obtain ⟨rfl,hne⟩:=find_bad HG.out.symm
     obtain rfl:=HGE.out
     have hn1 : ((e:Int) == 0)=false:=by simp; omega
     have hn2 : ¬ (e:Int)=0:=by omega
     have x1:=HX3.out.cell 1 _ rfl
     have HT:=Lib.hid (show tgt=some (e,q) by rw [HTG.out,judgeB]; simp only [nameL,← HG.out]; rfl)
     obtain ⟨wF,hwF,HCF,⟨e0,e1⟩,⟨r0,r1⟩,f0,f1⟩:=HR.out _ HC3.out (num e) (num q)
     change _ at hn1
     simp only [gotE] at *
     go_wp2_with fail
     refine bodyPost_ret (v:=.agg #[num e,num q]) (by simp [results,Tryz.results118,go_sem,f0,f1]) rfl ?_
     exact ⟨by rw [HT.out] <;> rfl,HCF.out⟩
    | is s=>
     have hge : ge=0:=HGE.out
     have hgl : gl=s.len:=HGL.out
     have hga : ga=s.args:=HGA.out
     subst hge hgl hga
     have x0:=HX3.out.cell 0 _ rfl; have x1:=HX3.out.cell 1 _ rfl
     obtain ⟨s0,s1,s2⟩:=HBZ.out.three
     by_cases h0 : 0≤s.args
     ·have HT:=Lib.hid (show tgt=some (1,p) by rw [HTG.out,judgeB]; simp only [nameL,← HG.out]; simp [h0])
      obtain ⟨wF,hwF,HCF,⟨e0,e1⟩,⟨r0,r1⟩,f0,f1⟩:=HR.out _ HC3.out (num 1) (num p)
      go_wp2_with fail
      refine bodyPost_ret (v:=.agg #[num 1,num p]) (by simp [results,Tryz.results118,go_sem,f0,f1]) rfl ?_
      exact ⟨by rw [HT.out] <;> rfl,HCF.out⟩
     by_cases h1 : 0 < s.len
     ·have g0:=HL3.out.fine0; have g1:=HL3.out.fine1
      have HT:=Lib.hid (show tgt=none by rw [HTG.out,judgeB]; simp only [nameL,← HG.out]; simp [h0,h1])
      go_wp2_with fail
      obtain ⟨wE,hwE⟩ : ∃ x,x=w3.drew:=⟨_,rfl⟩
      have hcE:Chg [] w3 wE:=by rw [hwE]; exact (Chg.refl [] w3).drew
      have HCE:=Lib.hid (HC3.out.then hcE)
      refine wp_region_C [] rfl (by kernel_rfl) ?_
      rw [← hwE]
      clear hwE
      have hS:Chg [] wE wE:=Chg.refl _ _
      have g0:=hcE.cellSome g0 (by simp); have g1:=hcE.cellSome g1 (by simp); have x1:=hcE.cellSome x1 (by simp)
      obtain ⟨wF,hwF,HCF,⟨e0,e1⟩,⟨r0,r1⟩,f0,f1⟩:=HR.out _ HCE.out (num 0) (num (-1))
      repeat ((with_reducible refine gX ?_); (first | refine wpX_nil ?_ | refine sK ?_ | refine sM fun _ _=>?_ | refine sL fun _ _=>?_ | refine sE fun _ _=>?_); go_wp2_with fail)
      clear hS
      go_wp2_with fail
      refine bodyPost_ret (v:=.agg #[num 0,num (-1)]) (by simp [results,Tryz.results118,go_sem,f0,f1]) rfl ?_
      exact ⟨by rw [HT.out] <;> rfl,HCF.out⟩
     have HT:=Lib.hid (show tgt=some (1,p) by rw [HTG.out,judgeB]; simp only [nameL,← HG.out]; simp [h0,h1])
     obtain ⟨wF,hwF,HCF,⟨e0,e1⟩,⟨r0,r1⟩,f0,f1⟩:=HR.out _ HC3.out (num 1) (num p)
     go_wp2_with fail
     refine bodyPost_ret (v:=.agg #[num 1,num p]) (by simp [results,Tryz.results118,go_sem,f0,f1]) rfl ?_
     exact ⟨by rw [HT.out] <;> rfl,HCF.out⟩
  ·have x0:=HX.out.cell 0 _ rfl
   go_enter Tryz.func118,Tryz.ntmps118
   go_upto_region 3 with fail
   clear x0
   go_cut [9,10] (fun s9 s10 wx=>∃ (bz:Nat) (nz:List UInt8),s9=ptr bz∧s10=num ge∧Blk wx bz #[str nz,num gl,num ga] 106∧Chg [] wD wx)
   case first=>
    clear hwm hw0
    have x3:=HXD.out.cell 3 _ rfl; have x4:=HXD.out.cell 4 _ rfl
    obtain ⟨m0,m1,m2,m3,m4⟩:=HMD.out.five
    refine wp_region_J isEff [] 15 11 rfl (by kernel_rfl) (by kernel_rfl) (by kernel_rfl) ?_ ?_
    all_goals refine (?_ : wpX _ _ _ _ _ [_,_,_,_,_,_,_,_,_,_,_,_,_,_,_,_,_,_] _ _)
    all_goals rw [← hwD]
    all_goals clear hwD
    ·have hS:Chg [] wD wD:=Chg.refl _ _
     have k3:=HCA.out.cellSome x3 (by simp); have k4:=HCA.out.cellSome x4 (by simp)
     have n0:=HCA.out.cellSome m0 (by simp); have n1:=HCA.out.cellSome m1 (by simp); have n2:=HCA.out.cellSome m2 (by simp); have n3:=HCA.out.cellSome m3 (by simp); have n4:=HCA.out.cellSome m4 (by simp)
     have hS2:=HCA.out
     repeat ((with_reducible refine gX ?_); (first | refine wpX_nil ?_ | refine sK ?_ | refine sM fun _ _=>?_ | refine sL fun _ _=>?_ | refine sE fun _ _=>?_); go_wp2_with fail)
     refine And.intro HCA.out ?_
     repeat ((with_reducible refine gX ?_); (first | refine wpX_nil ?_ | refine sK ?_ | refine sM fun _ _=>?_ | refine sL fun _ _=>?_ | refine sE fun _ _=>?_); go_wp2_with fail)
     refine (HCALL.out _ (HCD.out.then HCA.out)).mono ?_; rintro _ w2 ⟨nz,rfl,hc2⟩
     have hb2:=HZA.out.kept hc2 (by simp)
     obtain ⟨wF,hwF,hcF,hbF⟩:=set3 (str nz) (num gl) (num ga) hb2
     have hcF2:=(HCA.out.then hc2).trans hcF (fun i hi=>.inr (by simp at hi; omega))
     have HBF:=Lib.hid hbF; have HCF:=Lib.hid hcF2
     have z0:=hb2.cell 0 _ rfl; have z1:=hb2.cell 1 _ rfl; have z2:=hb2.cell 2 _ rfl; have y0:=hb2.frozen 0; have y1:=hb2.frozen 1; have y2:=hb2.frozen 2
     have hS3:Chg [] wD w2:=HCA.out.then hc2
     clear k3 k4 n0 n1 n2 n3 n4 x3 x4 m0 m1 m2 m3 m4 hbF hcF hb2 hcF2
     go_wp2_with fail
     refine And.intro hS3 ?_
     repeat ((with_reducible refine gX ?_); (first | refine wpX_nil ?_ | refine sK ?_ | refine sM fun _ _=>?_ | refine sL fun _ _=>?_ | refine sE fun _ _=>?_); go_wp2_with fail)
     refine And.intro HCF.out ?_
     have hS4:=HCF.out
     repeat ((with_reducible refine gX ?_); (first | refine wpX_nil ?_ | refine sK ?_ | refine sM fun _ _=>?_ | refine sL fun _ _=>?_ | refine sE fun _ _=>?_); go_wp2_with fail)
     go_meet
     exact ⟨_,nz,rfl,rfl,HBF.out,HCF.out⟩
    ·have hS:Chg [] wD wD:=Chg.refl _ _
     repeat ((with_reducible refine gX ?_); (first | refine wpX_nil ?_ | refine sK ?_ | refine sM fun _ _=>?_ | refine sL fun _ _=>?_ | refine sE fun _ _=>?_); go_wp2_with fail)
     refine (HCALL.out _ HCD.out).mono ?_; rintro _ w2 ⟨nz,rfl,hc2⟩
     have hz:=Blk.new w2 #[str [],num 0,num 0] 106
     obtain ⟨wB,hwB⟩ : ∃ x,w2.alloc (.cells #[str [],num 0,num 0] 106)=x:=⟨_,rfl⟩
     rw [hwB] at hz
     have hcB:Chg [] w2 wB:=by rw [← hwB]; exact (Chg.refl _ _).alloc _
     obtain ⟨wF,hwF,hcF,hbF⟩:=set3 (str nz) (num gl) (num ga) hz
     have hsz:=hc2.size
     have hcF2:=(hc2.then hcB).trans hcF (fun i hi=>.inr (by simp at hi; omega))
     have HBF:=Lib.hid hbF; have HCF:=Lib.hid hcF2
     have z0:=hz.cell 0 _ rfl; have z1:=hz.cell 1 _ rfl; have z2:=hz.cell 2 _ rfl; have y0:=hz.frozen 0; have y1:=hz.frozen 1; have y2:=hz.frozen 2
     have hS3:Chg [] wD w2:=hc2
     have hS5:Chg [] wD wB:=hc2.then hcB
     clear x3 x4 m0 m1 m2 m3 m4 hbF hcF hz hcF2 hsz hcB
     go_wp2_with fail
     refine And.intro hS3 ?_
     repeat ((with_reducible refine gX ?_); (first | refine wpX_nil ?_ | refine sK ?_ | refine sM fun _ _=>?_ | refine sL fun _ _=>?_ | refine sE fun _ _=>?_); go_wp2_with fail)
     refine And.intro hS5 ?_
     repeat ((with_reducible refine gX ?_); (first | refine wpX_nil ?_ | refine sK ?_ | refine sM fun _ _=>?_ | refine sL fun _ _=>?_ | refine sE fun _ _=>?_); go_wp2_with fail)
     refine And.intro HCF.out ?_
     have hS4:=HCF.out
     repeat ((with_reducible refine gX ?_); (first | refine wpX_nil ?_ | refine sK ?_ | refine sM fun _ _=>?_ | refine sL fun _ _=>?_ | refine sE fun _ _=>?_); go_wp2_with fail)
     go_meet
     exact ⟨_,nz,rfl,rfl,HBF.out,HCF.out⟩
   case rest=>
    obtain ⟨bz,nz,rfl,rfl,hblk,hcx⟩:=hcut
    obtain ⟨w3,h⟩ : ∃ x,x=wc:=⟨_,rfl⟩
    subst h
    have HBZ:=Lib.hid hblk; have HC3:=Lib.hid (HCD0.out.then hcx)
    have HX3:=Lib.hid (HX.out.kept HC3.out (by simp)); have HL3:=Lib.hid (HL.out.kept HC3.out (by simp))
    clear hblk hcx hwD hwA hwm hw0
    cases g with
    | bad e q=>
     obtain ⟨rfl,hne⟩:=find_bad HG.out.symm
     obtain rfl:=HGE.out
     have hn1 : ((e:Int) == 0)=false:=by simp; omega
     have hn2 : ¬ (e:Int)=0:=by omega
     have x1:=HX3.out.cell 1 _ rfl
     have HT:=Lib.hid (show tgt=some (e,q) by rw [HTG.out,judgeB]; simp only [nameL,← HG.out]; rfl)
     obtain ⟨wF,hwF,HCF,⟨e0,e1⟩,⟨r0,r1⟩,f0,f1⟩:=HR.out _ HC3.out (num e) (num q)
     change _ at hn1
     simp only [gotE] at *
     go_wp2_with fail
     refine bodyPost_ret (v:=.agg #[num e,num q]) (by simp [results,Tryz.results118,go_sem,f0,f1]) rfl ?_
     exact ⟨by rw [HT.out] <;> rfl,HCF.out⟩
    | is s=>
     have hge : ge=0:=HGE.out
     have hgl : gl=s.len:=HGL.out
     have hga : ga=s.args:=HGA.out
     subst hge hgl hga
     have x0:=HX3.out.cell 0 _ rfl; have x1:=HX3.out.cell 1 _ rfl
     obtain ⟨s0,s1,s2⟩:=HBZ.out.three
     by_cases h0 : 0≤s.args
     ·have g0:=HL3.out.fine0; have g1:=HL3.out.fine1
      have x8:=HX3.out.cell 8 _ rfl
      by_cases hka : (k:Int)=s.args
      ·have HT:=Lib.hid (show tgt=none by rw [HTG.out,judgeB]; simp only [nameL,← HG.out]; simp [h0,hka])
       go_wp2_with fail
       obtain ⟨wE,hwE⟩ : ∃ x,x=w3.drew:=⟨_,rfl⟩
       have hcE:Chg [] w3 wE:=by rw [hwE]; exact (Chg.refl [] w3).drew
       have HCE:=Lib.hid (HC3.out.then hcE)
       have j8:=hcE.cellSome x8 (by simp); have j2:=hcE.cellSome s2 (by simp)
       refine wp_region_C [] rfl (by kernel_rfl) ?_
       rw [← hwE]
       clear hwE
       have hS:Chg [] wE wE:=Chg.refl _ _
       have g0:=hcE.cellSome g0 (by simp); have g1:=hcE.cellSome g1 (by simp); have x1:=hcE.cellSome x1 (by simp)
       obtain ⟨wF,hwF,HCF,⟨e0,e1⟩,⟨r0,r1⟩,f0,f1⟩:=HR.out _ HCE.out (num 0) (num (-1))
       repeat ((with_reducible refine gX ?_); (first | refine wpX_nil ?_ | refine sK ?_ | refine sM fun _ _=>?_ | refine sL fun _ _=>?_ | refine sE fun _ _=>?_); go_wp2_with fail)
       clear hS
       go_wp2_with fail
       refine bodyPost_ret (v:=.agg #[num 0,num (-1)]) (by simp [results,Tryz.results118,go_sem,f0,f1]) rfl ?_
       exact ⟨by rw [HT.out] <;> rfl,HCF.out⟩
      ·have HT:=Lib.hid (show tgt=some (2,p) by rw [HTG.out,judgeB]; simp only [nameL,← HG.out]; simp [h0,hka])
       go_wp2_with fail
       obtain ⟨wE,hwE⟩ : ∃ x,x=w3.drew:=⟨_,rfl⟩
       have hcE:Chg [] w3 wE:=by rw [hwE]; exact (Chg.refl [] w3).drew
       have HCE:=Lib.hid (HC3.out.then hcE)
       have j8:=hcE.cellSome x8 (by simp); have j2:=hcE.cellSome s2 (by simp)
       refine wp_region_C [] rfl (by kernel_rfl) ?_
       rw [← hwE]
       clear hwE
       have hS:Chg [] wE wE:=Chg.refl _ _
       have g0:=hcE.cellSome g0 (by simp); have g1:=hcE.cellSome g1 (by simp); have x1:=hcE.cellSome x1 (by simp)
       obtain ⟨wF,hwF,HCF,⟨e0,e1⟩,⟨r0,r1⟩,f0,f1⟩:=HR.out _ HCE.out (num 2) (num p)
       repeat ((with_reducible refine gX ?_); (first | refine wpX_nil ?_ | refine sK ?_ | refine sM fun _ _=>?_ | refine sL fun _ _=>?_ | refine sE fun _ _=>?_); go_wp2_with fail)
       clear hS
       go_wp2_with fail
       refine bodyPost_ret (v:=.agg #[num 2,num p]) (by simp [results,Tryz.results118,go_sem,f0,f1]) rfl ?_
       exact ⟨by rw [HT.out] <;> rfl,HCF.out⟩
     by_cases h1 : 0 < s.len
     ·have HT:=Lib.hid (show tgt=some (1,p) by rw [HTG.out,judgeB]; simp only [nameL,← HG.out]; simp [h0,h1])
      obtain ⟨wF,hwF,HCF,⟨e0,e1⟩,⟨r0,r1⟩,f0,f1⟩:=HR.out _ HC3.out (num 1) (num p)
      go_wp2_with fail
      refine bodyPost_ret (v:=.agg #[num 1,num p]) (by simp [results,Tryz.results118,go_sem,f0,f1]) rfl ?_
      exact ⟨by rw [HT.out] <;> rfl,HCF.out⟩
     have HT:=Lib.hid (show tgt=some (1,p) by rw [HTG.out,judgeB]; simp only [nameL,← HG.out]; simp [h0,h1])
     obtain ⟨wF,hwF,HCF,⟨e0,e1⟩,⟨r0,r1⟩,f0,f1⟩:=HR.out _ HC3.out (num 1) (num p)
     go_wp2_with fail
     refine bodyPost_ret (v:=.agg #[num 1,num p]) (by simp [results,Tryz.results118,go_sem,f0,f1]) rfl ?_
     exact ⟨by rw [HT.out] <;> rfl,HCF.out⟩
end Go.Proofs.YtojkkgghndeimaaGreatDoor
