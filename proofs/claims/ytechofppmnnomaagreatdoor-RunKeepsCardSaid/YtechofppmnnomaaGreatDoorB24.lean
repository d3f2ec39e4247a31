/- Some texts in one. -/
import Derived.Laws.OwnMore
import Derived.Test.YtechofppmnnomaaGreatDoorB12
import Derived.Test.YtechofppmnnomaaGreatDoorB17
import Derived.Test.YtechofppmnnomaaGreatDoorB22
import Derived.Test.YtechofppmnnomaaGreatDoorB23
namespace Go.Mq.Run
open Go Go.RowKit Go.Mq Go.Mq.Tree Go.Mq.Sym
open Go.Mq.fo (aZ getM dB mP nK JE JF)
def dP (M:Ms):Nm→Option (List Sy):=fun q=>(M q).map ofM
theorem Rh (es:List (Nm × Value)) (n:Nm):Check.getM es n=getM es n:=by
 induction es with
 | nil=>rfl
 | cons p r ih=>obtain⟨k,u⟩:=p;rw [Check.getM,getM,ih]
theorem Ri {w:World} {b:Nat} {es:List (Nm × Value)} (h:aZ w b es):Check.aZ w b es:=by
 obtain⟨arr,clock,h1,h2,_⟩:=h;exact⟨arr,clock,h1,h2⟩
theorem abk {es:List (Nm × Value)} {n:Nm} (h : (getM es n).isSome=true) : n∈es.map (·.1):=by
 induction es with
 | nil=>cases h
 | cons p r ih=>
  obtain⟨k,u⟩:=p;rw [getM] at h;split at h
  ·next hk=>simp [hk]
  ·have:=ih h;simp at this ⊢;exact .inr this
def Parts (w:World) (L:Lay):Prop:=(L.M=(fun _=>none)∧ag w L.bw #[.map none,ah] 40)∨Stat w L
theorem Parts.kept {w w':World} {L:Lay} (h:Parts w L) (hc:ae [] w w'):Parts w' L:=by
 rcases h with⟨h1,h2⟩|h
 ·exact .inl ⟨h1,h2.kept hc (by simp)⟩
 ·exact .inr (h.kept hc (by simp))
section
variable {P:Program}
theorem abl {t k e:TypeId} (ht:P.underlying t=some (.map k e)) (w:World) : (Instr.range t (.map none)).run P w = .ok (.pointer (some ⟨w.heap.size,0,none⟩)) (w.alloc (.mapIter none 0 #[] 0)):=by
 simp [Instr.range,run_underlying ht]
theorem abm {w:World} {r:Nat} (h : w.heap[r]?=some (.mapIter none 0 #[] 0)) (ty:TypeId) : (Instr.next (.pointer (some ⟨r,0,none⟩)) false ty).run P w = .ok (.tuple #[.bool false]) w:=by
 simp [Instr.next,getObj,Sem.run,h]
end
end Go.Mq.Run
namespace Go.Proofs.YtechofppmnnomaaGreatDoor
open Go Go.RowKit Go.Mq Go.Mq.Tree Go.Mq.Sym Go.Mq.Run
open Go.Mq.fo (aZ getM dB mP nK JE JF jo)
set_option maxRecDepth 100000
set_option maxHeartbeats 4000000
theorem La {r:Nat} {w w':World} {v:Value} {ty:TypeId} (h : (Instr.next (.pointer (some ⟨r,0,none⟩)) false ty).run Tryz.prog w = .ok v w') : ∀ ty',(Instr.next (.pointer (some ⟨r,0,none⟩)) false ty').run Tryz.prog w = .ok v w':=fun _=>h
theorem abp (L:Lay) (w:World) (hp:Parts w L) (hfix : ∀ x,L.Fix x→x < w.heap.size) (hgood : ∀ q m,L.M q=some m→m.vars.length≤10∧m.procs.length≤10) :
  Calls Tryz.prog 38 #[ptr L.bw] w (fun e w'=>∃ v,e = .returned v∧Check.rJ w' (New w w') (dP L.M) v∧ae [] w w'):=by
 have hmm:=@run_makeMap Tryz.prog;obtain⟨wa,xC⟩ : ∃ x,w.alloc (.map #[] 0)=x:=⟨_,rfl⟩
 have xD:aZ wa w.heap.size []:=by rw [← xC];exact aZ.made w
 have aO:ae [] w wa:=by rw [← xC];exact(ae.refl _ _).alloc _
 have hsa : wa.heap.size=w.heap.size + 1:=by rw [← xC];simp
 rcases hp.kept aO with⟨hM,hb⟩|hst
 ·have hrg:=abl (P:=Tryz.prog) Tryz.underlying38 wa
  obtain⟨wb,hwb⟩ : ∃ x,wa.alloc (.mapIter none 0 #[] 0)=x:=⟨_,rfl⟩
  rw [hwb] at hrg;have hit : wb.heap[wa.heap.size]?=some (.mapIter none 0 #[] 0):=by rw [← hwb];exact heap_alloc_new wa _
  have hcb:ae [] wa wb:=by rw [← hwb];exact(ae.refl _ _).alloc _
  have hnx:=La (abm (P:=Tryz.prog) hit 0);have b0:=hb.cell 0 _ rfl;have HM:=zh hM;have mX:=zh (xD.kept hcb (by simp));have HC:=zh (aO.then hcb);clear xD aO hsa hb hit hcb hM
  go_enter Tryz.func38,Tryz.ntmps38
  go_wp2_with fail;refine wp_loop_rounds 1 ?_;rw [rounds_succ];go_wp2_with fail;go_ret
  have hs:=HC.out.size;have hl:=mX.out.lt;exact⟨_,rfl,.inr ⟨w.heap.size,[],rfl,⟨Nat.le_refl _,hl⟩,Ri mX.out,fun n=>by rw [dP,HM.out];rfl⟩,HC.out⟩
 ·obtain⟨hown,bp,bR,abq,hbw,hfp,hpm,hall⟩:=hst
  have b0:=hbw.cell 0 _ rfl;obtain⟨wb,hrg,zC,hcb,hsb⟩:=JE (P:=Tryz.prog) Tryz.underlying38 hpm;have Rj:=hpm.lt;have HOWN:=zh hown;have K9:=zh (hfix bp hfp);have Rk:Mq.Run.Stat wb L:=(show Mq.Run.Stat wa L from⟨hown,bp,bR,abq,hbw,hfp,hpm,hall⟩).kept hcb (by simp);have HST:=zh Rk;have mX:=zh (xD.kept hcb (by simp));have HC:=zh (aO.then hcb);have DY:=zh zC;have HG:=zh hgood;have kW:=zh hfix;have DZ:=zh hall;have HPM:=zh hpm;have Ji:=(xD.kept hcb (by simp)).lt;clear xD aO hbw hpm zC hcb hgood hall Rk hfix
  go_enter Tryz.func38,Tryz.ntmps38
  go_wp2_with fail;clear xC hrg b0;rw [hsa] at DY;obtain⟨r,hr⟩ : ∃ r,r=w.heap.size + 1:=⟨_,rfl⟩
  rw [← hr] at DY ⊢;have HR:=zh hr;have Rl : wb.heap.size=w.heap.size + 2:=by omega
  have aB:=zh Rl;clear hr hsa hsb Rl Ji
  go_loopw [4,5] (fun _ _ wr=>∃ rest els,nK wr bp r bR rest∧aZ wr w.heap.size els∧(∀ q,q∉rest→match L.M q with
   | none=>getM els q=none
   | some m=>∃ u,getM els q=some u∧lY wr (fun x=>r < x∧x < wr.heap.size) (ofM m) u)∧ae [] w wr∧ae [w.heap.size,r] wb wr) (fun _ _ wr=>wr.rangeLeft bp r)
  case atStart=>exact⟨_,[],DY.out,mX.out,fun q hq=>by
   have:=DZ.out q;cases hM:L.M q with
   | none=>rfl
   | some m=>
    rw [hM] at this;exact absurd (abk (by rw [this.1];rfl)) hq,HC.out,ae.refl _ _⟩
  case round=>
   obtain⟨rest,els,zC,hmb,hinv,hcw,hc⟩:=hrel;have hr:=HR.out;have hsb:=aB.out;have hbp:=K9.out;have hnb : bp≠w.heap.size:=by omega
   have Rm:=zh hinv;have aC:=zh hcw;have aD:=zh hc;have Rn:=zh hmb;rcases JF (P:=Tryz.prog) zC (by omega) 0 with⟨hnil,hnx⟩|⟨n,v,rest',wn,hn1,hn2,jJ,rV,Ro,hnx,Rp,hcn,hent⟩
   ·have GX:=La hnx
    subst hnil;clear hinv hcw hc hmb hnx zC HC DY mX hr hsb;go_wp2_with fail;go_ret
    have hr:=HR.out;have hl:=Rn.out.lt;refine⟨_,rfl,.inr ⟨w.heap.size,els,rfl,⟨Nat.le_refl _,hl⟩,Ri Rn.out,fun q=>?_⟩,aC.out⟩;have:=Rm.out q (by simp);rw [dP];cases hM:L.M q with
    | none=>rw [hM] at this;rw [Rh];exact this
    | some m=>
     rw [hM] at this;obtain⟨u,h1,h2⟩:=this;have hl2:=HG.out q m hM;exact⟨by have:=PS hl2.1 hl2.2;rw [ofM];omega,u,by rw [Rh];exact h1,h2.mono (fun x hx=>⟨by have:=hx.1;omega,hx.2⟩)⟩
   ·have GX:=La hnx
    have hq:=DZ.out n;cases hM:L.M n with
    | none=>rw [hM] at hq;simp only at hq;rw [hq] at jJ;cases jJ
    | some m=>
     rw [hM] at hq;have hv : v=ptr (L.pb n):=by have:=hq.1;rw [jJ] at this;cases this;rfl
     subst hv;have abr:Mq.Run.Stat wn L:=HST.out.kept (hc.then (hcn.mono (fun x hx=>.inl (by simp at hx;simp [hx])))) (fun x hx hf=>by have:=kW.out x hf;simp at hx;omega);obtain⟨_,_,_,_,_,_,_,Rq⟩:=abr;have hq2:=Rq n;rw [hM] at hq2;obtain⟨_,hpo,dK,ai,ci,av,cv,ap,cp,ab,cb,bv,es,h3,h4,_⟩:=hq2;have p0:=h3.cell 0 _ rfl;have p1:=h3.cell 1 _ rfl;have p2:=h3.cell 2 _ rfl;have p3:=h3.cell 3 _ rfl;have p4:=h3.cell 4 _ rfl;have hlen:=HG.out n m hM;obtain⟨vi,vv,vp,vb,he,_,hgl,hpr,_⟩:=h4;cases he
     have nN:=zh (PH m.vars m.procs hlen.1 hlen.2 L.Fix m.name ai m.imports.length ci ab m.body.len cb _ _ wn hgl (uN hpr));have Rs:=zh Rp;have vC:=zh zC.left_eq;have HN5:=zh Ro;have Bc:=zh rV;have zA:=zh hcn;have HM:=zh hM;have Rt:=zh (hmb.kept hcn (by simp;omega));clear hinv hcw hc hmb hnx zC Rp hcn hn1 hn2 jJ rV Ro hq Rq h3 hgl hpr dK hM hlen HC DY mX hr hsb;go_wp2_with fail;refine nN.out.mono ?_;rintro e w2 ⟨u,rfl,hu,hc2⟩;obtain⟨w3,hup,kI,hc3⟩:=jo (P:=Tryz.prog) Tryz.underlying97 Tryz.underlying9 (Rt.out.kept hc2 (by simp)) n u;have HU:=zh hu;have vD:=zh hc2;have bG:=zh hc3;have lK:=zh kI;obtain⟨ua,uc,rfl,_,_,_⟩:=hu;clear hc2 hc3 kI;have Lb:=bG.out.size;have abu:=zh Lb;clear Lb;go_wp2_with fail;have Lb:=abu.out;have hs2:=vD.out.size;have hsn:=zA.out.size;have hsw:=aC.out.size;have hrl:=Rs.out.lt;have hr:=HR.out;have hsb:=aB.out;have Ru:=(Rs.out.kept vD.out (by simp) (by simp)).kept bG.out (by simp;omega) (by simp;omega);have hcw3:ae [] w w3:=(((aC.out.trans zA.out (fun x hx=>.inr (by simp at hx;omega))).then vD.out)).trans bG.out (fun x hx=>.inr (by simp at hx;omega));refine⟨⟨rest',_,Ru,lK.out,fun q hq=>?_,hcw3,?_⟩,?_⟩
     ·rw [mP]
      by_cases zx : n=q
      ·subst zx
       rw [HM.out,if_pos rfl];exact⟨_,rfl,(HU.out.kept bG.out (fun x hx hf=>by simp at hx;subst hx;have:=hf.1;omega)).mono (fun x hx=>⟨by have:=hx.1;omega,by have:=hx.2;omega⟩)⟩
      ·rw [if_neg zx]
       have hq2 : q∉rest:=fun hqr=>hq (Bc.out q hqr (Ne.symm zx))
       have:=Rm.out q hq2;cases Rv:L.M q with
       | none=>rw [Rv] at this;exact this
       | some mq=>
        rw [Rv] at this;obtain⟨u',h1,h2⟩:=this;exact⟨u',h1,(((h2.kept zA.out (fun x hx hf=>by simp at hx;subst hx;have:=hf.1;omega)).kept vD.out (by simp)).kept bG.out (fun x hx hf=>by simp at hx;subst hx;have:=hf.1;omega)).mono (fun x hx=>⟨hx.1,by have:=hx.2;omega⟩)⟩
     ·exact((aD.out.then (zA.out.mono (fun x hx=>.inl (by simp at hx;simp [hx])))).then vD.out.weak).then (bG.out.mono (fun x hx=>.inl (by simp at hx;simp [hx])))
     ·rw [Ru.left_eq,vC.out]
      exact HN5.out
end Go.Proofs.YtechofppmnnomaaGreatDoor
namespace Go.Mq.Run
open Go Go.RowKit Go.Mq Go.Mq.Tree
def zeros (k:Nat):List Int:=List.replicate k 0
def jC (g:bJ):Nat:=(max g.len 1).toNat
def jf (l:List bJ):Nm→Option (List Int):=l.foldl (fun f g=>fun n=>if g.name=n then some (zeros (jC g)) else f n) fun _=>none
theorem Lc (l:List bJ) (g:bJ) : jf (l ++ [g])=fun n=>if g.name=n then some (zeros (jC g)) else jf l n:=by rw [jf,List.foldl_append];rfl
end Go.Mq.Run
namespace Go.Mq.Run
open Go Go.RowKit Go.Mq Go.Mq.Tree
theorem Rx {w:World} {b:Nat} (v0 v1 v2 v3:Value) {u0 u1 u2 u3:Value} {t:TypeId} (h:ag w b #[u0,u1,u2,u3] t) : ∃ wF,((((w.setCell ⟨b,0,none⟩ v0).setCell ⟨b,1,none⟩ v1).setCell ⟨b,2,none⟩ v2).setCell ⟨b,3,none⟩ v3)=wF∧ae [b] w wF∧ag wF b #[v0,v1,v2,v3] t:=
 ⟨_,rfl,(((ae.set1 _ _ _ _).then (ae.set1 _ _ _ _)).then (ae.set1 _ _ _ _)).then (ae.set1 _ _ _ _),by
  have:=(((h.set 0 v0).set 1 v1).set 2 v2).set 3 v3
  simpa using this⟩
end Go.Mq.Run
namespace Go.Proofs.YtechofppmnnomaaGreatDoor
open Go Go.RowKit Go.Mq Go.Mq.Tree Go.Mq.Run
set_option maxRecDepth 100000
set_option maxHeartbeats 4000000
theorem abw (w:World) (k:Nat) (hk : k≤1000) : (Instr.makeSlice 41 (num k) (num k)).run Tryz.prog w = .ok (.slice (some ⟨w.heap.size,0,none⟩) k k) (w.alloc (.cells (ints (zeros k)).toArray bO)):=by
 obtain⟨i,hi⟩ : ∃ i,Tryz.prog.info? 2=some i:=by
  cases h:Tryz.prog.info? 2 with
  | some i=>exact⟨i,rfl⟩
  | none=>have:=AR;rw [show Tryz.prog.info? bO=none from h] at this;cases this
 have hz : i.zero=some (num 0)∧i.size=1∧i.bytes=8:=by
  have:=AR;rw [show Tryz.prog.info? bO=some i from hi] at this;simp only [Option.map_some,Option.some.injEq,Prod.mk.injEq] at this;exact this
 have h:=run_makeSlice (P:=Tryz.prog) w 41 2 i (num 0) Tryz.underlying41 hi hz.1 .i64 .i64 k k (by omega) (Int.le_refl _) (by rw [hz.2.1];simp;omega) (by rw [hz.2.2];omega) (by omega);simp only [Int.toNat_natCast,hz.2.1,Nat.mul_one] at h;rw [h];have hm : madeCells (num 0).cells k=(ints (zeros k)).toArray:=by
  apply Array.ext'
  rw [show (num 0).cells = #[num 0] from rfl,toList_madeCells_one];simp [ints,zeros]
 rw [hm]
structure kK (w:World) (lo b:Nat) (l:List bJ) (au:Nm→Option (Nat × Nat)) (ay:List Nat):Prop where
 map : ∃ es,fo.aZ w b es ∧ ∀ n,fo.getM es n=(au n).map fun x=>.slice (some ⟨x.1,0,none⟩) x.2 x.2
 inj : ∀ {n k n' k' a},au n=some (a,k)→au n'=some (a,k')→n=n'
 arr : ∀ {n a k},au n=some (a,k)→a∈ay∧1≤k∧k≤1000
 low : ∀ {a},a∈ay→lo≤a∧a < w.heap.size ∧ ∃ k,ag w a (ints (zeros k)).toArray bO
 is : ∀ n,match au n with
  | some x=>jf l n=some (zeros x.2)∧ag w x.1 (ints (zeros x.2)).toArray bO
  | none=>jf l n=none
theorem kK.Ry {w w':World} {lo b:Nat} {l:List bJ} {au:Nm→Option (Nat × Nat)} {ay:List Nat} (h:kK w lo b l au ay) (hc:ae [] w w'):kK w' lo b l au ay:=by
 obtain⟨es,h1,h2⟩:=h.map;refine⟨⟨es,h1.kept hc (by simp),h2⟩,h.inj,h.arr,fun ha=>?_,fun n=>?_⟩
 ·obtain⟨h3,h4,k,h5⟩:=h.low ha
  exact⟨h3,by have:=hc.size;omega,k,h5.kept hc (by simp)⟩
 ·have:=h.is n
  cases hd : au n with
  | none=>rw [hd] at this;exact this
  | some x=>rw [hd] at this;exact⟨this.1,this.2.kept hc (by simp)⟩
theorem abx (m:Mod) (dK : m.vars.length≤10) (hlen : ∀ g∈m.vars,0≤g.len∧g.len≤30) (F:Nat→Prop) (x1:Option Addr) (y1 z1:Nat) (av:Option Addr) (cv:Nat) (x3:Option Addr) (y3 z3:Nat) (x4:Option Addr) (y4 z4:Nat) (w:World) (hg:lD w F m.vars (.slice av m.vars.length cv)) :
  Calls Tryz.prog 39 #[.agg #[str m.name,.slice x1 y1 z1,.slice av m.vars.length cv,.slice x3 y3 z3,.slice x4 y4 z4]] w (fun e w'=>∃ b au ay,e = .returned (.map (some b))∧w.heap.size≤b∧kK w' w.heap.size b m.vars au ay∧ae [] w w'):=by
 have hmm:=@run_makeMap Tryz.prog;obtain⟨a',c',he,hcv,hrow⟩:=hg;cases he
 obtain⟨w0,hw0⟩ : ∃ x,w.alloc (.cells #[str m.name,.slice x1 y1 z1,.slice av m.vars.length cv,.slice x3 y3 z3,.slice x4 y4 z4] 32)=x:=⟨_,rfl⟩
 have hb0:ag w0 w.heap.size #[str m.name,.slice x1 y1 z1,.slice av m.vars.length cv,.slice x3 y3 z3,.slice x4 y4 z4] 32:=by rw [← hw0];exact ag.new w _ _
 have hc0:ae [] w w0:=by rw [← hw0];exact(ae.refl _ _).alloc _
 have hs0 : w0.heap.size=w.heap.size + 1:=by rw [← hw0];simp
 obtain⟨w1,hw1⟩ : ∃ x,w0.alloc (.map #[] 0)=x:=⟨_,rfl⟩
 have hm1:fo.aZ w1 w0.heap.size []:=by rw [← hw1];exact fo.aZ.made w0
 have hc1:ae [] w0 w1:=by rw [← hw1];exact(ae.refl _ _).alloc _
 have d2:=(hb0.kept hc1 (by simp)).cell 2 _ rfl;obtain⟨bm,gy⟩ : ∃ b,b=w0.heap.size:=⟨_,rfl⟩
 have lX:=zh (show bm=w.heap.size + 1 by omega);have iD:=zh (QO hrow);have HC:=zh (hc0.then hc1);have HM:=zh hm1;have HLEN:=zh hlen;have jM:=zh (show bm < w1.heap.size by rw [gy];exact hm1.lt);clear hrow hb0 hc0 hs0 hm1 hc1 hlen
 go_enter Tryz.func39,Tryz.ntmps39
 go_wp2_with fail;rw [← gy];rw [← gy] at HM;clear hw0 hw1 gy d2
 go_loopw [5,10] (fun _ i wr=>∃ (k:Nat) (au:Nm→Option (Nat × Nat)) (ay:List Nat),i = .int .i64 k∧k≤m.vars.length∧kK wr w.heap.size bm (m.vars.take k) au ay∧(∀ a∈ay,bm < a)∧ae [bm] w1 wr) (fun _ i _=>m.vars.length - (intOf i).toNat)
 case atStart=>exact⟨0,fun _=>none,[],rfl,Nat.zero_le _,⟨⟨[],HM.out,fun n=>rfl⟩,(fun h=>by cases h),(fun h=>by cases h),(fun h=>by cases h),fun n=>rfl⟩,(fun a h=>by cases h),ae.refl _ _⟩
 case round=>
  obtain⟨k,au,ay,rfl,hk,hva,hgt,hc⟩:=hrel;have iJ:=zh hva;have Ld:=zh hgt;have aD:=zh hc;by_cases hlt : k < m.vars.length
  ·obtain⟨g,Bd⟩ : ∃ g,m.vars[k]?=some g:=⟨m.vars[k],List.getElem?_eq_getElem hlt⟩
   obtain⟨bb,off,rfl,d0,d1,d2,d3⟩:=Check.CY ((iD.out.kept HC.out (by simp)).kept hc (fun x hx hh=>by have:=hh.1;have:=lX.out;simp at hx;omega)) Bd;have hz:=ag.new wr #[str [],num 0,num 0,.bool false] 68;obtain⟨wA,az⟩ : ∃ wA,wr.alloc (.cells #[str [],num 0,num 0,.bool false] 68)=wA:=⟨_,rfl⟩
   rw [az] at hz;have hcA:ae [] wr wA:=by rw [← az];exact(ae.refl _ _).alloc _
   obtain⟨wF,hwF,aV,aG⟩:=Rx (str g.name) (num g.pos) (num g.len) (.bool g.seen) hz;have hcw:ae [] wr wF:=hcA.trans aV (fun x hx=>.inr (by simp at hx;omega));have g0:=hcA.aH d0 (by simp);have g1:=hcA.aH d1 (by simp);have g2:=hcA.aH d2 (by simp);have g3:=hcA.aH d3 (by simp);have z0:=hz.cell 0 _ rfl;have z1:=hz.cell 1 _ rfl;have z2:=hz.cell 2 _ rfl;have z3:=hz.cell 3 _ rfl;have y0:=hz.frozen 0;have y1:=hz.frozen 1;have y2:=hz.frozen 2;have y3:=hz.frozen 3;have e0:=aG.cell 0 _ rfl;have e2:=aG.cell 2 _ rfl;obtain⟨hl0,aby⟩:=HLEN.out g (List.mem_of_getElem? Bd);have hmx : max g.len 1=((jC g:Nat):Int):=by rw [jC];omega
   have hsz1 : 1≤jC g∧jC g≤30:=by rw [jC];omega
   have hmk:=abw wF.drew (jC g) (by omega);obtain⟨w5,GY⟩ : ∃ x,wF.drew.alloc (.cells (ints (zeros (jC g))).toArray bO)=x:=⟨_,rfl⟩
   rw [GY] at hmk;have bC:ae [] wr w5:=hcw.then (by rw [← GY];exact(ae.refl _ _).drew.alloc _)
   have Lf:ae [] wF w5:=by rw [← GY];exact(ae.refl _ _).drew.alloc _
   have i0:=Lf.aH e0 (by simp);have i2:=Lf.aH e2 (by simp);have hb5:ag w5 wF.heap.size (ints (zeros (jC g))).toArray bO:=by rw [← GY];exact ag.new wF.drew _ _
   have qR:=zh hb5;clear Lf hb5;obtain⟨es,hme,hes⟩:=hva.map;obtain⟨w6,hup,xE,hc6⟩:=fo.jo (P:=Tryz.prog) Tryz.underlying99 Tryz.underlying9 (hme.kept bC (by simp)) g.name (.slice (some ⟨wF.heap.size,0,none⟩) (jC g) (jC g));have aC:=zh hcw;have vE:=zh xE;have cO:=zh bC;have bI:=zh hc6;have qj:=zh hes;have HGK:=zh Bd;have Be:=zh hsz1;clear hva hgt hc hz hcA aV aG hcw hl0 aby bC hme hes xE hc6 Bd hsz1;go_wp2_with fail
   go_region
   all_goals (try go_wp2_with fail)
   have Jq:=cO.out.size;have hs6:=bI.out.size;have aid:=qR.out.lt;have aie:=jM.out;have aif:=aD.out.size;have aih : wr.heap.size≤wF.heap.size:=aC.out.size;have hne : wF.heap.size≠bm:=by omega
   have Bd:=HGK.out;refine⟨⟨k + 1,fun n=>if g.name=n then some (wF.heap.size,jC g) else au n,wF.heap.size :: ay,by go_num,by omega,⟨⟨_,vE.out,fun n=>?_⟩,?_,?_,?_,fun n=>?_⟩,?_,(aD.out.then cO.out.weak).then bI.out⟩,by simp [intOf];omega⟩
   ·rw [fo.mP,qj.out]
    by_cases hn : g.name=n
    ·simp [hn]
    ·simp [hn]
   ·intro n k n' k' a h1 h2
    split at h1 <;> split at h2
    ·next e1 e2=>rw [← e1,← e2]
    ·next e1 e2=>cases h1;have:=((iJ.out.low ((iJ.out.arr h2).1))).2.1;omega
    ·next e1 e2=>cases h2;have:=((iJ.out.low ((iJ.out.arr h1).1))).2.1;omega
    ·exact iJ.out.inj h1 h2
   ·intro n a k h1
    split at h1
    ·cases h1;have:=Be.out;exact⟨List.mem_cons_self,by omega,by omega⟩
    ·obtain⟨h3,h4⟩:=iJ.out.arr h1;exact⟨List.mem_cons_of_mem _ h3,h4⟩
   ·intro a ha
    rcases List.mem_cons.1 ha with rfl|ha
    ·have:=lX.out
     exact⟨by omega,by omega,_,qR.out.kept bI.out (by simpa using hne)⟩
    ·obtain⟨h3,h4,k',h5⟩:=iJ.out.low ha
     have:=Ld.out a ha;exact⟨h3,by omega,k',(h5.kept cO.out (by simp)).kept bI.out (by simp;omega)⟩
   ·rw [zo Bd,Lc]
    by_cases hn : g.name=n
    ·simp only [hn,if_true]
     exact⟨trivial,qR.out.kept bI.out (by simpa using hne)⟩
    ·simp only [hn,if_false]
     have:=iJ.out.is n;cases hd : au n with
     | none=>rw [hd] at this;exact this
     | some x=>
      rw [hd] at this;have hx:=Ld.out x.1 (iJ.out.arr (show au n=some (x.1,x.2) from hd)).1;exact⟨this.1,(this.2.kept cO.out (by simp)).kept bI.out (by simp;omega)⟩
   ·intro a ha
    rcases List.mem_cons.1 ha with rfl|ha
    ·omega
    ·exact Ld.out a ha
  ·have hkn : k=m.vars.length:=by omega
   have D5:=zh (show kK wr w.heap.size bm m.vars au ay by rw [List.take_of_length_le (by omega)] at hva;exact hva);clear hva hgt hc;go_wp2_with fail;go_ret
   exact⟨bm,au,ay,rfl,by have:=lX.out;omega,D5.out,HC.out.trans aD.out (fun x hx=>.inr (by have:=lX.out;simp at hx;omega))⟩
end Go.Proofs.YtechofppmnnomaaGreatDoor
