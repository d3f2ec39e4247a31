/- Some texts in one. -/
import Derived.Laws.OwnMore
import Derived.Test.YtechofppmnnomaaGreatDoorA12
import Derived.Test.YtechofppmnnomaaGreatDoorA17
import Derived.Test.YtechofppmnnomaaGreatDoorA22
import Derived.Test.YtechofppmnnomaaGreatDoorA23
namespace Go.Mq.Run
open Go Go.RowKit Go.Mq Go.Mq.Tree Go.Mq.Sym
open Go.Mq.fu (bA getM dG pW nN JO JP)
def dL (M:Ms):Nm→Option (List Sy):=fun q=>(M q).map ofM
theorem Rv (es:List (Nm × Value)) (n:Nm):Check.getM es n=getM es n:=by
 induction es with
 | nil=>rfl
 | cons p r ih=>obtain⟨k,u⟩:=p;rw [Check.getM,getM,ih]
theorem Rx {w:World} {b:Nat} {es:List (Nm × Value)} (h:bA w b es):Check.bA w b es:=by
 obtain⟨arr,clock,h1,h2,_⟩:=h;exact⟨arr,clock,h1,h2⟩
theorem abH {es:List (Nm × Value)} {n:Nm} (h : (getM es n).isSome=true) : n∈es.map (·.1):=by
 induction es with
 | nil=>cases h
 | cons p r ih=>
  obtain⟨k,u⟩:=p;rw [getM] at h;split at h
  ·next hk=>simp [hk]
  ·have:=ih h;simp at this ⊢;exact .inr this
def Parts (w:World) (L:Lay):Prop:=(L.M=(fun _=>none)∧ag w L.bw #[.map none,ah] 40)∨Stat w L
theorem Parts.kept {w w':World} {L:Lay} (h:Parts w L) (hc:ae [] w w'):Parts w' L:=by
 rcases h with⟨h1,h2⟩|h
 ·exact .inl ⟨h1,h2.kept hc (by simp)⟩
 ·exact .inr (h.kept hc (by simp))
section
variable {P:Program}
theorem abI {t k e:TypeId} (ht:P.underlying t=some (.map k e)) (w:World) : (Instr.range t (.map none)).run P w = .ok (.pointer (some ⟨w.heap.size,0,none⟩)) (w.alloc (.mapIter none 0 #[] 0)):=by
 simp [Instr.range,run_underlying ht]
theorem abJ {w:World} {r:Nat} (h : w.heap[r]?=some (.mapIter none 0 #[] 0)) (ty:TypeId) : (Instr.next (.pointer (some ⟨r,0,none⟩)) false ty).run P w = .ok (.tuple #[.bool false]) w:=by
 simp [Instr.next,getObj,Sem.run,h]
end
end Go.Mq.Run
namespace Go.Proofs.YtechofppmnnomaaGreatDoor
open Go Go.RowKit Go.Mq Go.Mq.Tree Go.Mq.Sym Go.Mq.Run
open Go.Mq.fu (bA getM dG pW nN JO JP kH)
set_option maxRecDepth 100000
set_option maxHeartbeats 4000000
theorem Lm {r:Nat} {w w':World} {v:Value} {ty:TypeId} (h : (Instr.next (.pointer (some ⟨r,0,none⟩)) false ty).run Tryz.prog w = .ok v w') : ∀ ty',(Instr.next (.pointer (some ⟨r,0,none⟩)) false ty').run Tryz.prog w = .ok v w':=fun _=>h
theorem abK (L:Lay) (w:World) (hp:Parts w L) (hfix : ∀ x,L.Fix x→x < w.heap.size) (hgood : ∀ q m,L.M q=some m→m.vars.length≤10∧m.procs.length≤10) :
  Calls Tryz.prog 38 #[ptr L.bw] w (fun e w'=>∃ v,e = .returned v∧Check.rQ w' (New w w') (dL L.M) v∧ae [] w w'):=by
 have hmm:=@run_makeMap Tryz.prog;obtain⟨wa,xG⟩ : ∃ x,w.alloc (.map #[] 0)=x:=⟨_,rfl⟩
 have xH:bA wa w.heap.size []:=by rw [← xG];exact bA.made w
 have aO:ae [] w wa:=by rw [← xG];exact(ae.refl _ _).alloc _
 have hsa : wa.heap.size=w.heap.size + 1:=by rw [← xG];simp
 rcases hp.kept aO with⟨hM,hb⟩|hst
 ·have hrg:=abI (P:=Tryz.prog) Tryz.underlying38 wa
  obtain⟨wb,hwb⟩ : ∃ x,wa.alloc (.mapIter none 0 #[] 0)=x:=⟨_,rfl⟩
  rw [hwb] at hrg;have hit : wb.heap[wa.heap.size]?=some (.mapIter none 0 #[] 0):=by rw [← hwb];exact heap_alloc_new wa _
  have hcb:ae [] wa wb:=by rw [← hwb];exact(ae.refl _ _).alloc _
  have hnx:=Lm (abJ (P:=Tryz.prog) hit 0);have b0:=hb.cell 0 _ rfl;have HM:=zh hM;have ng:=zh (xH.kept hcb (by simp));have HC:=zh (aO.then hcb);clear xH aO hsa hb hit hcb hM
  go_enter Tryz.func38,Tryz.ntmps38
  go_wp2_with fail;refine wp_loop_rounds 1 ?_;rw [rounds_succ];go_wp2_with fail;go_ret
  have hs:=HC.out.size;have hl:=ng.out.lt;exact⟨_,rfl,.inr ⟨w.heap.size,[],rfl,⟨Nat.le_refl _,hl⟩,Rx ng.out,fun n=>by rw [dL,HM.out];rfl⟩,HC.out⟩
 ·obtain⟨hown,bp,bQ,abL,hbw,hfp,hpm,hall⟩:=hst
  have b0:=hbw.cell 0 _ rfl;obtain⟨wb,hrg,zA,hcb,hsb⟩:=JO (P:=Tryz.prog) Tryz.underlying38 hpm;have Ry:=hpm.lt;have HOWN:=zh hown;have Ll:=zh (hfix bp hfp);have Rz:Mq.Run.Stat wb L:=(show Mq.Run.Stat wa L from⟨hown,bp,bQ,abL,hbw,hfp,hpm,hall⟩).kept hcb (by simp);have HST:=zh Rz;have ng:=zh (xH.kept hcb (by simp));have HC:=zh (aO.then hcb);have D9:=zh zA;have HG:=zh hgood;have kZ:=zh hfix;have Ea:=zh hall;have HPM:=zh hpm;have Js:=(xH.kept hcb (by simp)).lt;clear xH aO hbw hpm zA hcb hgood hall Rz hfix
  go_enter Tryz.func38,Tryz.ntmps38
  go_wp2_with fail;clear xG hrg b0;rw [hsa] at D9;obtain⟨r,hr⟩ : ∃ r,r=w.heap.size + 1:=⟨_,rfl⟩
  rw [← hr] at D9 ⊢;have HR:=zh hr;have RA : wb.heap.size=w.heap.size + 2:=by omega
  have az:=zh RA;clear hr hsa hsb RA Js
  go_loopw [4,5] (fun _ _ wr=>∃ rest els,nN wr bp r bQ rest∧bA wr w.heap.size els∧(∀ q,q∉rest→match L.M q with
   | none=>getM els q=none
   | some m=>∃ u,getM els q=some u∧l8 wr (fun x=>r < x∧x < wr.heap.size) (ofM m) u)∧ae [] w wr∧ae [w.heap.size,r] wb wr) (fun _ _ wr=>wr.rangeLeft bp r)
  case atStart=>exact⟨_,[],D9.out,ng.out,fun q hq=>by
   have:=Ea.out q;cases hM:L.M q with
   | none=>rfl
   | some m=>
    rw [hM] at this;exact absurd (abH (by rw [this.1];rfl)) hq,HC.out,ae.refl _ _⟩
  case round=>
   obtain⟨rest,els,zA,hmb,hinv,hcw,hc⟩:=hrel;have hr:=HR.out;have hsb:=az.out;have hbp:=Ll.out;have hnb : bp≠w.heap.size:=by omega
   have RB:=zh hinv;have aB:=zh hcw;have aD:=zh hc;have RD:=zh hmb;rcases JP (P:=Tryz.prog) zA (by omega) 0 with⟨hnil,hnx⟩|⟨n,v,rest',wn,hn1,hn2,jL,rZ,RF,hnx,RG,hcn,hent⟩
   ·have G9:=Lm hnx
    subst hnil;clear hinv hcw hc hmb hnx zA HC D9 ng hr hsb;go_wp2_with fail;go_ret
    have hr:=HR.out;have hl:=RD.out.lt;refine⟨_,rfl,.inr ⟨w.heap.size,els,rfl,⟨Nat.le_refl _,hl⟩,Rx RD.out,fun q=>?_⟩,aB.out⟩;have:=RB.out q (by simp);rw [dL];cases hM:L.M q with
    | none=>rw [hM] at this;rw [Rv];exact this
    | some m=>
     rw [hM] at this;obtain⟨u,h1,h2⟩:=this;have hl2:=HG.out q m hM;exact⟨by have:=Qd hl2.1 hl2.2;rw [ofM];omega,u,by rw [Rv];exact h1,h2.mono (fun x hx=>⟨by have:=hx.1;omega,hx.2⟩)⟩
   ·have G9:=Lm hnx
    have hq:=Ea.out n;cases hM:L.M n with
    | none=>rw [hM] at hq;simp only at hq;rw [hq] at jL;cases jL
    | some m=>
     rw [hM] at hq;have hv : v=ptr (L.pb n):=by have:=hq.1;rw [jL] at this;cases this;rfl
     subst hv;have abM:Mq.Run.Stat wn L:=HST.out.kept (hc.then (hcn.mono (fun x hx=>.inl (by simp at hx;simp [hx])))) (fun x hx hf=>by have:=kZ.out x hf;simp at hx;omega);obtain⟨_,_,_,_,_,_,_,RH⟩:=abM;have hq2:=RH n;rw [hM] at hq2;obtain⟨_,hpo,dJ,ai,ci,av,cv,ap,cp,ab,cb,bv,es,h3,h4,_⟩:=hq2;have p0:=h3.cell 0 _ rfl;have p1:=h3.cell 1 _ rfl;have p2:=h3.cell 2 _ rfl;have p3:=h3.cell 3 _ rfl;have p4:=h3.cell 4 _ rfl;have hlen:=HG.out n m hM;obtain⟨vi,vv,vp,vb,he,_,hgl,hpr,_⟩:=h4;cases he
     have nQ:=zh (P5 m.vars m.procs hlen.1 hlen.2 L.Fix m.name ai m.imports.length ci ab m.body.len cb _ _ wn hgl (uQ hpr));have RI:=zh RG;have xI:=zh zA.left_eq;have HN5:=zh RF;have Bi:=zh rZ;have zz:=zh hcn;have HM:=zh hM;have RJ:=zh (hmb.kept hcn (by simp;omega));clear hinv hcw hc hmb hnx zA RG hcn hn1 hn2 jL rZ RF hq RH h3 hgl hpr dJ hM hlen HC D9 ng hr hsb;go_wp2_with fail;refine nQ.out.mono ?_;rintro e w2 ⟨u,rfl,hu,hc2⟩;obtain⟨w3,hup,kK,hc3⟩:=kH (P:=Tryz.prog) Tryz.underlying97 Tryz.underlying9 (RJ.out.kept hc2 (by simp)) n u;have HU:=zh hu;have vC:=zh hc2;have bz:=zh hc3;have nT:=zh kK;obtain⟨ua,uc,rfl,_,_,_⟩:=hu;clear hc2 hc3 kK;have Lp:=bz.out.size;have abO:=zh Lp;clear Lp;go_wp2_with fail;have Lp:=abO.out;have hs2:=vC.out.size;have hsn:=zz.out.size;have hsw:=aB.out.size;have hrl:=RI.out.lt;have hr:=HR.out;have hsb:=az.out;have RL:=(RI.out.kept vC.out (by simp) (by simp)).kept bz.out (by simp;omega) (by simp;omega);have hcw3:ae [] w w3:=(((aB.out.trans zz.out (fun x hx=>.inr (by simp at hx;omega))).then vC.out)).trans bz.out (fun x hx=>.inr (by simp at hx;omega));refine⟨⟨rest',_,RL,nT.out,fun q hq=>?_,hcw3,?_⟩,?_⟩
     ·rw [pW]
      by_cases zw : n=q
      ·subst zw
       rw [HM.out,if_pos rfl];exact⟨_,rfl,(HU.out.kept bz.out (fun x hx hf=>by simp at hx;subst hx;have:=hf.1;omega)).mono (fun x hx=>⟨by have:=hx.1;omega,by have:=hx.2;omega⟩)⟩
      ·rw [if_neg zw]
       have hq2 : q∉rest:=fun hqr=>hq (Bi.out q hqr (Ne.symm zw))
       have:=RB.out q hq2;cases RN:L.M q with
       | none=>rw [RN] at this;exact this
       | some mq=>
        rw [RN] at this;obtain⟨u',h1,h2⟩:=this;exact⟨u',h1,(((h2.kept zz.out (fun x hx hf=>by simp at hx;subst hx;have:=hf.1;omega)).kept vC.out (by simp)).kept bz.out (fun x hx hf=>by simp at hx;subst hx;have:=hf.1;omega)).mono (fun x hx=>⟨hx.1,by have:=hx.2;omega⟩)⟩
     ·exact((aD.out.then (zz.out.mono (fun x hx=>.inl (by simp at hx;simp [hx])))).then vC.out.weak).then (bz.out.mono (fun x hx=>.inl (by simp at hx;simp [hx])))
     ·rw [RL.left_eq,xI.out]
      exact HN5.out
end Go.Proofs.YtechofppmnnomaaGreatDoor
namespace Go.Mq.Run
open Go Go.RowKit Go.Mq Go.Mq.Tree
def zeros (k:Nat):List Int:=List.replicate k 0
def jm (g:bJ):Nat:=(max g.len 1).toNat
def lU (l:List bJ):Nm→Option (List Int):=l.foldl (fun f g=>fun n=>if g.name=n then some (zeros (jm g)) else f n) fun _=>none
theorem Lr (l:List bJ) (g:bJ) : lU (l ++ [g])=fun n=>if g.name=n then some (zeros (jm g)) else lU l n:=by rw [lU,List.foldl_append];rfl
end Go.Mq.Run
namespace Go.Mq.Run
open Go Go.RowKit Go.Mq Go.Mq.Tree
theorem RO {w:World} {b:Nat} (v0 v1 v2 v3:Value) {u0 u1 u2 u3:Value} {t:TypeId} (h:ag w b #[u0,u1,u2,u3] t) : ∃ wF,((((w.setCell ⟨b,0,none⟩ v0).setCell ⟨b,1,none⟩ v1).setCell ⟨b,2,none⟩ v2).setCell ⟨b,3,none⟩ v3)=wF∧ae [b] w wF∧ag wF b #[v0,v1,v2,v3] t:=
 ⟨_,rfl,(((ae.set1 _ _ _ _).then (ae.set1 _ _ _ _)).then (ae.set1 _ _ _ _)).then (ae.set1 _ _ _ _),by
  have:=(((h.set 0 v0).set 1 v1).set 2 v2).set 3 v3
  simpa using this⟩
end Go.Mq.Run
namespace Go.Proofs.YtechofppmnnomaaGreatDoor
open Go Go.RowKit Go.Mq Go.Mq.Tree Go.Mq.Run
set_option maxRecDepth 100000
set_option maxHeartbeats 4000000
theorem abQ (w:World) (k:Nat) (hk : k≤1000) : (Instr.makeSlice 41 (num k) (num k)).run Tryz.prog w = .ok (.slice (some ⟨w.heap.size,0,none⟩) k k) (w.alloc (.cells (ints (zeros k)).toArray bN)):=by
 obtain⟨i,hi⟩ : ∃ i,Tryz.prog.info? 2=some i:=by
  cases h:Tryz.prog.info? 2 with
  | some i=>exact⟨i,rfl⟩
  | none=>have:=AZ;rw [show Tryz.prog.info? bN=none from h] at this;cases this
 have hz : i.zero=some (num 0)∧i.size=1∧i.bytes=8:=by
  have:=AZ;rw [show Tryz.prog.info? bN=some i from hi] at this;simp only [Option.map_some,Option.some.injEq,Prod.mk.injEq] at this;exact this
 have h:=run_makeSlice (P:=Tryz.prog) w 41 2 i (num 0) Tryz.underlying41 hi hz.1 .i64 .i64 k k (by omega) (Int.le_refl _) (by rw [hz.2.1];simp;omega) (by rw [hz.2.2];omega) (by omega);simp only [Int.toNat_natCast,hz.2.1,Nat.mul_one] at h;rw [h];have hm : madeCells (num 0).cells k=(ints (zeros k)).toArray:=by
  apply Array.ext'
  rw [show (num 0).cells = #[num 0] from rfl,toList_madeCells_one];simp [ints,zeros]
 rw [hm]
structure kP (w:World) (lo b:Nat) (l:List bJ) (ak:Nm→Option (Nat × Nat)) (au:List Nat):Prop where
 map : ∃ es,fu.bA w b es ∧ ∀ n,fu.getM es n=(ak n).map fun x=>.slice (some ⟨x.1,0,none⟩) x.2 x.2
 inj : ∀ {n k n' k' a},ak n=some (a,k)→ak n'=some (a,k')→n=n'
 arr : ∀ {n a k},ak n=some (a,k)→a∈au∧1≤k∧k≤1000
 low : ∀ {a},a∈au→lo≤a∧a < w.heap.size ∧ ∃ k,ag w a (ints (zeros k)).toArray bN
 is : ∀ n,match ak n with
  | some x=>lU l n=some (zeros x.2)∧ag w x.1 (ints (zeros x.2)).toArray bN
  | none=>lU l n=none
theorem kP.RP {w w':World} {lo b:Nat} {l:List bJ} {ak:Nm→Option (Nat × Nat)} {au:List Nat} (h:kP w lo b l ak au) (hc:ae [] w w'):kP w' lo b l ak au:=by
 obtain⟨es,h1,h2⟩:=h.map;refine⟨⟨es,h1.kept hc (by simp),h2⟩,h.inj,h.arr,fun ha=>?_,fun n=>?_⟩
 ·obtain⟨h3,h4,k,h5⟩:=h.low ha
  exact⟨h3,by have:=hc.size;omega,k,h5.kept hc (by simp)⟩
 ·have:=h.is n
  cases hd : ak n with
  | none=>rw [hd] at this;exact this
  | some x=>rw [hd] at this;exact⟨this.1,this.2.kept hc (by simp)⟩
theorem abR (m:Mod) (dJ : m.vars.length≤10) (hlen : ∀ g∈m.vars,0≤g.len∧g.len≤30) (F:Nat→Prop) (x1:Option Addr) (y1 z1:Nat) (av:Option Addr) (cv:Nat) (x3:Option Addr) (y3 z3:Nat) (x4:Option Addr) (y4 z4:Nat) (w:World) (hg:lJ w F m.vars (.slice av m.vars.length cv)) :
  Calls Tryz.prog 39 #[.agg #[str m.name,.slice x1 y1 z1,.slice av m.vars.length cv,.slice x3 y3 z3,.slice x4 y4 z4]] w (fun e w'=>∃ b ak au,e = .returned (.map (some b))∧w.heap.size≤b∧kP w' w.heap.size b m.vars ak au∧ae [] w w'):=by
 have hmm:=@run_makeMap Tryz.prog;obtain⟨a',c',he,hcv,hrow⟩:=hg;cases he
 obtain⟨w0,hw0⟩ : ∃ x,w.alloc (.cells #[str m.name,.slice x1 y1 z1,.slice av m.vars.length cv,.slice x3 y3 z3,.slice x4 y4 z4] 32)=x:=⟨_,rfl⟩
 have hb0:ag w0 w.heap.size #[str m.name,.slice x1 y1 z1,.slice av m.vars.length cv,.slice x3 y3 z3,.slice x4 y4 z4] 32:=by rw [← hw0];exact ag.new w _ _
 have hc0:ae [] w w0:=by rw [← hw0];exact(ae.refl _ _).alloc _
 have hs0 : w0.heap.size=w.heap.size + 1:=by rw [← hw0];simp
 obtain⟨w1,hw1⟩ : ∃ x,w0.alloc (.map #[] 0)=x:=⟨_,rfl⟩
 have hm1:fu.bA w1 w0.heap.size []:=by rw [← hw1];exact fu.bA.made w0
 have hc1:ae [] w0 w1:=by rw [← hw1];exact(ae.refl _ _).alloc _
 have d2:=(hb0.kept hc1 (by simp)).cell 2 _ rfl;obtain⟨bm,iy⟩ : ∃ b,b=w0.heap.size:=⟨_,rfl⟩
 have kV:=zh (show bm=w.heap.size + 1 by omega);have fH:=zh (Q5 hrow);have HC:=zh (hc0.then hc1);have HM:=zh hm1;have HLEN:=zh hlen;have jF:=zh (show bm < w1.heap.size by rw [iy];exact hm1.lt);clear hrow hb0 hc0 hs0 hm1 hc1 hlen
 go_enter Tryz.func39,Tryz.ntmps39
 go_wp2_with fail;rw [← iy];rw [← iy] at HM;clear hw0 hw1 iy d2
 go_loopw [5,10] (fun _ i wr=>∃ (k:Nat) (ak:Nm→Option (Nat × Nat)) (au:List Nat),i = .int .i64 k∧k≤m.vars.length∧kP wr w.heap.size bm (m.vars.take k) ak au∧(∀ a∈au,bm < a)∧ae [bm] w1 wr) (fun _ i _=>m.vars.length - (intOf i).toNat)
 case atStart=>exact⟨0,fun _=>none,[],rfl,Nat.zero_le _,⟨⟨[],HM.out,fun n=>rfl⟩,(fun h=>by cases h),(fun h=>by cases h),(fun h=>by cases h),fun n=>rfl⟩,(fun a h=>by cases h),ae.refl _ _⟩
 case round=>
  obtain⟨k,ak,au,rfl,hk,hva,hgt,hc⟩:=hrel;have iQ:=zh hva;have Ls:=zh hgt;have aD:=zh hc;by_cases hlt : k < m.vars.length
  ·obtain⟨g,Bj⟩ : ∃ g,m.vars[k]?=some g:=⟨m.vars[k],List.getElem?_eq_getElem hlt⟩
   obtain⟨bb,off,rfl,d0,d1,d2,d3⟩:=Check.AL ((fH.out.kept HC.out (by simp)).kept hc (fun x hx hh=>by have:=hh.1;have:=kV.out;simp at hx;omega)) Bj;have hz:=ag.new wr #[str [],num 0,num 0,.bool false] 68;obtain⟨wA,ay⟩ : ∃ wA,wr.alloc (.cells #[str [],num 0,num 0,.bool false] 68)=wA:=⟨_,rfl⟩
   rw [ay] at hz;have hcA:ae [] wr wA:=by rw [← ay];exact(ae.refl _ _).alloc _
   obtain⟨wF,hwF,aZ,aG⟩:=RO (str g.name) (num g.pos) (num g.len) (.bool g.seen) hz;have hcw:ae [] wr wF:=hcA.trans aZ (fun x hx=>.inr (by simp at hx;omega));have g0:=hcA.aF d0 (by simp);have g1:=hcA.aF d1 (by simp);have g2:=hcA.aF d2 (by simp);have g3:=hcA.aF d3 (by simp);have z0:=hz.cell 0 _ rfl;have z1:=hz.cell 1 _ rfl;have z2:=hz.cell 2 _ rfl;have z3:=hz.cell 3 _ rfl;have y0:=hz.frozen 0;have y1:=hz.frozen 1;have y2:=hz.frozen 2;have y3:=hz.frozen 3;have e0:=aG.cell 0 _ rfl;have e2:=aG.cell 2 _ rfl;obtain⟨hl0,abS⟩:=HLEN.out g (List.mem_of_getElem? Bj);have hmx : max g.len 1=((jm g:Nat):Int):=by rw [jm];omega
   have hsz1 : 1≤jm g∧jm g≤30:=by rw [jm];omega
   have hmk:=abQ wF.drew (jm g) (by omega);obtain⟨w5,Ha⟩ : ∃ x,wF.drew.alloc (.cells (ints (zeros (jm g))).toArray bN)=x:=⟨_,rfl⟩
   rw [Ha] at hmk;have bH:ae [] wr w5:=hcw.then (by rw [← Ha];exact(ae.refl _ _).drew.alloc _)
   have Lt:ae [] wF w5:=by rw [← Ha];exact(ae.refl _ _).drew.alloc _
   have i0:=Lt.aF e0 (by simp);have i2:=Lt.aF e2 (by simp);have hb5:ag w5 wF.heap.size (ints (zeros (jm g))).toArray bN:=by rw [← Ha];exact ag.new wF.drew _ _
   have qN:=zh hb5;clear Lt hb5;obtain⟨es,hme,hes⟩:=hva.map;obtain⟨w6,hup,xJ,hc6⟩:=fu.kH (P:=Tryz.prog) Tryz.underlying99 Tryz.underlying9 (hme.kept bH (by simp)) g.name (.slice (some ⟨wF.heap.size,0,none⟩) (jm g) (jm g));have aB:=zh hcw;have Eb:=zh xJ;have cO:=zh bH;have bD:=zh hc6;have qh:=zh hes;have HGK:=zh Bj;have Bl:=zh hsz1;clear hva hgt hc hz hcA aZ aG hcw hl0 abS bH hme hes xJ hc6 Bj hsz1;go_wp2_with fail
   go_region
   all_goals (try go_wp2_with fail)
   have JB:=cO.out.size;have hs6:=bD.out.size;have aim:=qN.out.lt;have aip:=jF.out;have aiq:=aD.out.size;have air : wr.heap.size≤wF.heap.size:=aB.out.size;have hne : wF.heap.size≠bm:=by omega
   have Bj:=HGK.out;refine⟨⟨k + 1,fun n=>if g.name=n then some (wF.heap.size,jm g) else ak n,wF.heap.size :: au,by go_num,by omega,⟨⟨_,Eb.out,fun n=>?_⟩,?_,?_,?_,fun n=>?_⟩,?_,(aD.out.then cO.out.weak).then bD.out⟩,by simp [intOf];omega⟩
   ·rw [fu.pW,qh.out]
    by_cases hn : g.name=n
    ·simp [hn]
    ·simp [hn]
   ·intro n k n' k' a h1 h2
    split at h1 <;> split at h2
    ·next e1 e2=>rw [← e1,← e2]
    ·next e1 e2=>cases h1;have:=((iQ.out.low ((iQ.out.arr h2).1))).2.1;omega
    ·next e1 e2=>cases h2;have:=((iQ.out.low ((iQ.out.arr h1).1))).2.1;omega
    ·exact iQ.out.inj h1 h2
   ·intro n a k h1
    split at h1
    ·cases h1;have:=Bl.out;exact⟨List.mem_cons_self,by omega,by omega⟩
    ·obtain⟨h3,h4⟩:=iQ.out.arr h1;exact⟨List.mem_cons_of_mem _ h3,h4⟩
   ·intro a ha
    rcases List.mem_cons.1 ha with rfl|ha
    ·have:=kV.out
     exact⟨by omega,by omega,_,qN.out.kept bD.out (by simpa using hne)⟩
    ·obtain⟨h3,h4,k',h5⟩:=iQ.out.low ha
     have:=Ls.out a ha;exact⟨h3,by omega,k',(h5.kept cO.out (by simp)).kept bD.out (by simp;omega)⟩
   ·rw [zn Bj,Lr]
    by_cases hn : g.name=n
    ·simp only [hn,if_true]
     exact⟨trivial,qN.out.kept bD.out (by simpa using hne)⟩
    ·simp only [hn,if_false]
     have:=iQ.out.is n;cases hd : ak n with
     | none=>rw [hd] at this;exact this
     | some x=>
      rw [hd] at this;have hx:=Ls.out x.1 (iQ.out.arr (show ak n=some (x.1,x.2) from hd)).1;exact⟨this.1,(this.2.kept cO.out (by simp)).kept bD.out (by simp;omega)⟩
   ·intro a ha
    rcases List.mem_cons.1 ha with rfl|ha
    ·omega
    ·exact Ls.out a ha
  ·have hkn : k=m.vars.length:=by omega
   have Ec:=zh (show kP wr w.heap.size bm m.vars ak au by rw [List.take_of_length_le (by omega)] at hva;exact hva);clear hva hgt hc;go_wp2_with fail;go_ret
   exact⟨bm,ak,au,rfl,by have:=kV.out;omega,Ec.out,HC.out.trans aD.out (fun x hx=>.inr (by have:=kV.out;simp at hx;omega))⟩
end Go.Proofs.YtechofppmnnomaaGreatDoor
