/- Some texts in one. -/
import Derived.Laws.OwnMore
import Derived.Test.YtechofppmnnomaaGreatDoorG12
import Derived.Test.YtechofppmnnomaaGreatDoorG17
import Derived.Test.YtechofppmnnomaaGreatDoorG22
import Derived.Test.YtechofppmnnomaaGreatDoorG23
namespace Go.Mq.Run
open Go Go.RowKit Go.Mq Go.Mq.Tree Go.Mq.Sym
open Go.Mq.Plan (MapIs getM putM getM_put Ranging map_range map_next)
def seenOf (M:Ms):Nm→Option (List Sy):=fun q=>(M q).map ofM
theorem getM_check (es:List (Nm × Value)) (n:Nm):Check.getM es n=getM es n:=by
 induction es with
 | nil=>rfl
 | cons p r ih=>obtain⟨k,u⟩:=p;rw [Check.getM,getM,ih]
theorem mapIs_check {w:World} {b:Nat} {es:List (Nm × Value)} (h:MapIs w b es):Check.MapIs w b es:=by
 obtain⟨arr,clock,h1,h2,_⟩:=h;exact⟨arr,clock,h1,h2⟩
theorem getM_in {es:List (Nm × Value)} {n:Nm} (h : (getM es n).isSome=true) : n∈es.map (·.1):=by
 induction es with
 | nil=>cases h
 | cons p r ih=>
  obtain⟨k,u⟩:=p;rw [getM] at h;split at h
  ·next hk=>simp [hk]
  ·have:=ih h;simp at this ⊢;exact .inr this
def Parts (w:World) (L:Lay):Prop:=(L.M=(fun _=>none)∧Blk w L.bw #[.map none,nils] 40)∨Stat w L
theorem Parts.kept {w w':World} {L:Lay} (h:Parts w L) (hc:Chg [] w w'):Parts w' L:=by
 rcases h with⟨h1,h2⟩|h
 ·exact .inl ⟨h1,h2.kept hc (by simp)⟩
 ·exact .inr (h.kept hc (by simp))
section
variable {P:Program}
theorem range_nil {t k e:TypeId} (ht:P.underlying t=some (.map k e)) (w:World) : (Instr.range t (.map none)).run P w = .ok (.pointer (some ⟨w.heap.size,0,none⟩)) (w.alloc (.mapIter none 0 #[] 0)):=by
 simp [Instr.range,run_underlying ht]
theorem next_nil {w:World} {r:Nat} (h : w.heap[r]?=some (.mapIter none 0 #[] 0)) (ty:TypeId) : (Instr.next (.pointer (some ⟨r,0,none⟩)) false ty).run P w = .ok (.tuple #[.bool false]) w:=by
 simp [Instr.next,getObj,Sem.run,h]
end
end Go.Mq.Run
namespace Go.Proofs.YtechofppmnnomaaGreatDoor
open Go Go.RowKit Go.Mq Go.Mq.Tree Go.Mq.Sym Go.Mq.Run
open Go.Mq.Plan (MapIs getM putM getM_put Ranging map_range map_next run_putM)
set_option maxRecDepth 100000
set_option maxHeartbeats 4000000
theorem rnext_ty {r:Nat} {w w':World} {v:Value} {ty:TypeId} (h : (Instr.next (.pointer (some ⟨r,0,none⟩)) false ty).run Tryz.prog w = .ok v w') : ∀ ty',(Instr.next (.pointer (some ⟨r,0,none⟩)) false ty').run Tryz.prog w = .ok v w':=fun _=>h
theorem seen_any (L:Lay) (w:World) (hp:Parts w L) (hfix : ∀ x,L.Fix x→x < w.heap.size) (hgood : ∀ q m,L.M q=some m→m.vars.length≤10∧m.procs.length≤10) :
  Calls Tryz.prog 38 #[ptr L.bw] w (fun e w'=>∃ v,e = .returned v∧Check.SeenAt w' (New w w') (seenOf L.M) v∧Chg [] w w'):=by
 have hmm:=@run_makeMap Tryz.prog;obtain⟨wa,hwa⟩ : ∃ x,w.alloc (.map #[] 0)=x:=⟨_,rfl⟩
 have hma:MapIs wa w.heap.size []:=by rw [← hwa];exact MapIs.made w
 have hca:Chg [] w wa:=by rw [← hwa];exact(Chg.refl _ _).alloc _
 have hsa : wa.heap.size=w.heap.size + 1:=by rw [← hwa];simp
 rcases hp.kept hca with⟨hM,hb⟩|hst
 ·have hrg:=range_nil (P:=Tryz.prog) Tryz.underlying38 wa
  obtain⟨wb,hwb⟩ : ∃ x,wa.alloc (.mapIter none 0 #[] 0)=x:=⟨_,rfl⟩
  rw [hwb] at hrg;have hit : wb.heap[wa.heap.size]?=some (.mapIter none 0 #[] 0):=by rw [← hwb];exact heap_alloc_new wa _
  have hcb:Chg [] wa wb:=by rw [← hwb];exact(Chg.refl _ _).alloc _
  have hnx:=rnext_ty (next_nil (P:=Tryz.prog) hit 0);have b0:=hb.cell 0 _ rfl;have HM:=zh hM;have HMB:=zh (hma.kept hcb (by simp));have HC:=zh (hca.then hcb);clear hma hca hsa hb hit hcb hM
  go_enter Tryz.func38,Tryz.ntmps38
  go_wp2_with fail;refine wp_loop_rounds 1 ?_;rw [rounds_succ];go_wp2_with fail;go_ret
  have hs:=HC.out.size;have hl:=HMB.out.lt;exact⟨_,rfl,.inr ⟨w.heap.size,[],rfl,⟨Nat.le_refl _,hl⟩,mapIs_check HMB.out,fun n=>by rw [seenOf,HM.out];rfl⟩,HC.out⟩
 ·obtain⟨hown,bp,pes,ordv,hbw,hfp,hpm,hall⟩:=hst
  have b0:=hbw.cell 0 _ rfl;obtain⟨wb,hrg,hri,hcb,hsb⟩:=map_range (P:=Tryz.prog) Tryz.underlying38 hpm;have hbpl:=hpm.lt;have HOWN:=zh hown;have HBP:=zh (hfix bp hfp);have hstb:Mq.Run.Stat wb L:=(show Mq.Run.Stat wa L from⟨hown,bp,pes,ordv,hbw,hfp,hpm,hall⟩).kept hcb (by simp);have HST:=zh hstb;have HMB:=zh (hma.kept hcb (by simp));have HC:=zh (hca.then hcb);have HRI:=zh hri;have HG:=zh hgood;have HFX:=zh hfix;have HALL:=zh hall;have HPM:=zh hpm;have hml:=(hma.kept hcb (by simp)).lt;clear hma hca hbw hpm hri hcb hgood hall hstb hfix
  go_enter Tryz.func38,Tryz.ntmps38
  go_wp2_with fail;clear hwa hrg b0;rw [hsa] at HRI;obtain⟨r,hr⟩ : ∃ r,r=w.heap.size + 1:=⟨_,rfl⟩
  rw [← hr] at HRI ⊢;have HR:=zh hr;have hsb' : wb.heap.size=w.heap.size + 2:=by omega
  have HSB:=zh hsb';clear hr hsa hsb hsb' hml
  go_loopw [4,5] (fun _ _ wr=>∃ rest els,Ranging wr bp r pes rest∧MapIs wr w.heap.size els∧(∀ q,q∉rest→match L.M q with
   | none=>getM els q=none
   | some m=>∃ u,getM els q=some u∧SymsAt wr (fun x=>r < x∧x < wr.heap.size) (ofM m) u)∧Chg [] w wr∧Chg [w.heap.size,r] wb wr) (fun _ _ wr=>wr.rangeLeft bp r)
  case atStart=>exact⟨_,[],HRI.out,HMB.out,fun q hq=>by
   have:=HALL.out q;cases hM:L.M q with
   | none=>rfl
   | some m=>
    rw [hM] at this;exact absurd (getM_in (by rw [this.1];rfl)) hq,HC.out,Chg.refl _ _⟩
  case round=>
   obtain⟨rest,els,hri,hmb,hinv,hcw,hc⟩:=hrel;have hr:=HR.out;have hsb:=HSB.out;have hbp:=HBP.out;have hnb : bp≠w.heap.size:=by omega
   have HINV:=zh hinv;have HCW:=zh hcw;have HC2:=zh hc;have HML:=zh hmb;rcases map_next (P:=Tryz.prog) hri (by omega) 0 with⟨hnil,hnx⟩|⟨n,v,rest',wn,hn1,hn2,hn3,hn4,hn5,hnx,hri2,hcn,hent⟩
   ·have hnx':=rnext_ty hnx
    subst hnil;clear hinv hcw hc hmb hnx hri HC HRI HMB hr hsb;go_wp2_with fail;go_ret
    have hr:=HR.out;have hl:=HML.out.lt;refine⟨_,rfl,.inr ⟨w.heap.size,els,rfl,⟨Nat.le_refl _,hl⟩,mapIs_check HML.out,fun q=>?_⟩,HCW.out⟩;have:=HINV.out q (by simp);rw [seenOf];cases hM:L.M q with
    | none=>rw [hM] at this;rw [getM_check];exact this
    | some m=>
     rw [hM] at this;obtain⟨u,h1,h2⟩:=this;have hl2:=HG.out q m hM;exact⟨by have:=seenL_len hl2.1 hl2.2;rw [ofM];omega,u,by rw [getM_check];exact h1,h2.mono (fun x hx=>⟨by have:=hx.1;omega,hx.2⟩)⟩
   ·have hnx':=rnext_ty hnx
    have hq:=HALL.out n;cases hM:L.M n with
    | none=>rw [hM] at hq;simp only at hq;rw [hq] at hn3;cases hn3
    | some m=>
     rw [hM] at hq;have hv : v=ptr (L.pb n):=by have:=hq.1;rw [hn3] at this;cases this;rfl
     subst hv;have hstn:Mq.Run.Stat wn L:=HST.out.kept (hc.then (hcn.mono (fun x hx=>.inl (by simp at hx;simp [hx])))) (fun x hx hf=>by have:=HFX.out x hf;simp at hx;omega);obtain⟨_,_,_,_,_,_,_,hall2⟩:=hstn;have hq2:=hall2 n;rw [hM] at hq2;obtain⟨_,hpo,hfew,ai,ci,av,cv,ap,cp,ab,cb,bv,es,h3,h4,_⟩:=hq2;have p0:=h3.cell 0 _ rfl;have p1:=h3.cell 1 _ rfl;have p2:=h3.cell 2 _ rfl;have p3:=h3.cell 3 _ rfl;have p4:=h3.cell 4 _ rfl;have hlen:=HG.out n m hM;obtain⟨vi,vv,vp,vb,he,_,hgl,hpr,_⟩:=h4;cases he
     have HOF:=zh (of_any m.vars m.procs hlen.1 hlen.2 L.Fix m.name ai m.imports.length ci ab m.body.len cb _ _ wn hgl (procsL_of hpr));have HRI2:=zh hri2;have HRL:=zh hri.left_eq;have HN5:=zh hn5;have HN4:=zh hn4;have HCN:=zh hcn;have HM:=zh hM;have HMN:=zh (hmb.kept hcn (by simp;omega));clear hinv hcw hc hmb hnx hri hri2 hcn hn1 hn2 hn3 hn4 hn5 hq hall2 h3 hgl hpr hfew hM hlen HC HRI HMB hr hsb;go_wp2_with fail;refine HOF.out.mono ?_;rintro e w2 ⟨u,rfl,hu,hc2⟩;obtain⟨w3,hup,hm3,hc3⟩:=run_putM (P:=Tryz.prog) Tryz.underlying97 Tryz.underlying9 (HMN.out.kept hc2 (by simp)) n u;have HU:=zh hu;have HC2':=zh hc2;have HC3:=zh hc3;have HM3:=zh hm3;obtain⟨ua,uc,rfl,_,_,_⟩:=hu;clear hc2 hc3 hm3;have hs23:=HC3.out.size;have HS23:=zh hs23;clear hs23;go_wp2_with fail;have hs23:=HS23.out;have hs2:=HC2'.out.size;have hsn:=HCN.out.size;have hsw:=HCW.out.size;have hrl:=HRI2.out.lt;have hr:=HR.out;have hsb:=HSB.out;have hri3:=(HRI2.out.kept HC2'.out (by simp) (by simp)).kept HC3.out (by simp;omega) (by simp;omega);have hcw3:Chg [] w w3:=(((HCW.out.trans HCN.out (fun x hx=>.inr (by simp at hx;omega))).then HC2'.out)).trans HC3.out (fun x hx=>.inr (by simp at hx;omega));refine⟨⟨rest',_,hri3,HM3.out,fun q hq=>?_,hcw3,?_⟩,?_⟩
     ·rw [getM_put]
      by_cases hqn : n=q
      ·subst hqn
       rw [HM.out,if_pos rfl];exact⟨_,rfl,(HU.out.kept HC3.out (fun x hx hf=>by simp at hx;subst hx;have:=hf.1;omega)).mono (fun x hx=>⟨by have:=hx.1;omega,by have:=hx.2;omega⟩)⟩
      ·rw [if_neg hqn]
       have hq2 : q∉rest:=fun hqr=>hq (HN4.out q hqr (Ne.symm hqn))
       have:=HINV.out q hq2;cases hMq:L.M q with
       | none=>rw [hMq] at this;exact this
       | some mq=>
        rw [hMq] at this;obtain⟨u',h1,h2⟩:=this;exact⟨u',h1,(((h2.kept HCN.out (fun x hx hf=>by simp at hx;subst hx;have:=hf.1;omega)).kept HC2'.out (by simp)).kept HC3.out (fun x hx hf=>by simp at hx;subst hx;have:=hf.1;omega)).mono (fun x hx=>⟨hx.1,by have:=hx.2;omega⟩)⟩
     ·exact((HC2.out.then (HCN.out.mono (fun x hx=>.inl (by simp at hx;simp [hx])))).then HC2'.out.weak).then (HC3.out.mono (fun x hx=>.inl (by simp at hx;simp [hx])))
     ·rw [hri3.left_eq,HRL.out]
      exact HN5.out
end Go.Proofs.YtechofppmnnomaaGreatDoor
namespace Go.Mq.Run
open Go Go.RowKit Go.Mq Go.Mq.Tree
def zeros (k:Nat):List Int:=List.replicate k 0
def sizeG (g:Glob):Nat:=(max g.len 1).toNat
def startF (l:List Glob):Nm→Option (List Int):=l.foldl (fun f g=>fun n=>if g.name=n then some (zeros (sizeG g)) else f n) fun _=>none
theorem startF_snoc (l:List Glob) (g:Glob) : startF (l ++ [g])=fun n=>if g.name=n then some (zeros (sizeG g)) else startF l n:=by rw [startF,List.foldl_append];rfl
end Go.Mq.Run
namespace Go.Mq.Run
open Go Go.RowKit Go.Mq Go.Mq.Tree
theorem set4R {w:World} {b:Nat} (v0 v1 v2 v3:Value) {u0 u1 u2 u3:Value} {t:TypeId} (h:Blk w b #[u0,u1,u2,u3] t) : ∃ wF,((((w.setCell ⟨b,0,none⟩ v0).setCell ⟨b,1,none⟩ v1).setCell ⟨b,2,none⟩ v2).setCell ⟨b,3,none⟩ v3)=wF∧Chg [b] w wF∧Blk wF b #[v0,v1,v2,v3] t:=
 ⟨_,rfl,(((Chg.set1 _ _ _ _).then (Chg.set1 _ _ _ _)).then (Chg.set1 _ _ _ _)).then (Chg.set1 _ _ _ _),by
  have:=(((h.set 0 v0).set 1 v1).set 2 v2).set 3 v3
  simpa using this⟩
end Go.Mq.Run
namespace Go.Proofs.YtechofppmnnomaaGreatDoor
open Go Go.RowKit Go.Mq Go.Mq.Tree Go.Mq.Run
set_option maxRecDepth 100000
set_option maxHeartbeats 4000000
theorem make_ints (w:World) (k:Nat) (hk : k≤1000) : (Instr.makeSlice 41 (num k) (num k)).run Tryz.prog w = .ok (.slice (some ⟨w.heap.size,0,none⟩) k k) (w.alloc (.cells (ints (zeros k)).toArray i64T)):=by
 obtain⟨i,hi⟩ : ∃ i,Tryz.prog.info? 2=some i:=by
  cases h:Tryz.prog.info? 2 with
  | some i=>exact⟨i,rfl⟩
  | none=>have:=infoInt;rw [show Tryz.prog.info? i64T=none from h] at this;cases this
 have hz : i.zero=some (num 0)∧i.size=1∧i.bytes=8:=by
  have:=infoInt;rw [show Tryz.prog.info? i64T=some i from hi] at this;simp only [Option.map_some,Option.some.injEq,Prod.mk.injEq] at this;exact this
 have h:=run_makeSlice (P:=Tryz.prog) w 41 2 i (num 0) Tryz.underlying41 hi hz.1 .i64 .i64 k k (by omega) (Int.le_refl _) (by rw [hz.2.1];simp;omega) (by rw [hz.2.2];omega) (by omega);simp only [Int.toNat_natCast,hz.2.1,Nat.mul_one] at h;rw [h];have hm : madeCells (num 0).cells k=(ints (zeros k)).toArray:=by
  apply Array.ext'
  rw [show (num 0).cells = #[num 0] from rfl,toList_madeCells_one];simp [ints,zeros]
 rw [hm]
structure VarsAt (w:World) (lo b:Nat) (l:List Glob) (dim:Nm→Option (Nat × Nat)) (arrs:List Nat):Prop where
 map : ∃ es,Plan.MapIs w b es ∧ ∀ n,Plan.getM es n=(dim n).map fun x=>.slice (some ⟨x.1,0,none⟩) x.2 x.2
 inj : ∀ {n k n' k' a},dim n=some (a,k)→dim n'=some (a,k')→n=n'
 arr : ∀ {n a k},dim n=some (a,k)→a∈arrs∧1≤k∧k≤1000
 low : ∀ {a},a∈arrs→lo≤a∧a < w.heap.size ∧ ∃ k,Blk w a (ints (zeros k)).toArray i64T
 is : ∀ n,match dim n with
  | some x=>startF l n=some (zeros x.2)∧Blk w x.1 (ints (zeros x.2)).toArray i64T
  | none=>startF l n=none
theorem VarsAt.keptS {w w':World} {lo b:Nat} {l:List Glob} {dim:Nm→Option (Nat × Nat)} {arrs:List Nat} (h:VarsAt w lo b l dim arrs) (hc:Chg [] w w'):VarsAt w' lo b l dim arrs:=by
 obtain⟨es,h1,h2⟩:=h.map;refine⟨⟨es,h1.kept hc (by simp),h2⟩,h.inj,h.arr,fun ha=>?_,fun n=>?_⟩
 ·obtain⟨h3,h4,k,h5⟩:=h.low ha
  exact⟨h3,by have:=hc.size;omega,k,h5.kept hc (by simp)⟩
 ·have:=h.is n
  cases hd : dim n with
  | none=>rw [hd] at this;exact this
  | some x=>rw [hd] at this;exact⟨this.1,this.2.kept hc (by simp)⟩
theorem start_any (m:Mod) (hfew : m.vars.length≤10) (hlen : ∀ g∈m.vars,0≤g.len∧g.len≤30) (F:Nat→Prop) (x1:Option Addr) (y1 z1:Nat) (av:Option Addr) (cv:Nat) (x3:Option Addr) (y3 z3:Nat) (x4:Option Addr) (y4 z4:Nat) (w:World) (hg:GlobsAt w F m.vars (.slice av m.vars.length cv)) :
  Calls Tryz.prog 39 #[.agg #[str m.name,.slice x1 y1 z1,.slice av m.vars.length cv,.slice x3 y3 z3,.slice x4 y4 z4]] w (fun e w'=>∃ b dim arrs,e = .returned (.map (some b))∧w.heap.size≤b∧VarsAt w' w.heap.size b m.vars dim arrs∧Chg [] w w'):=by
 have hmm:=@run_makeMap Tryz.prog;obtain⟨a',c',he,hcv,hrow⟩:=hg;cases he
 obtain⟨w0,hw0⟩ : ∃ x,w.alloc (.cells #[str m.name,.slice x1 y1 z1,.slice av m.vars.length cv,.slice x3 y3 z3,.slice x4 y4 z4] 32)=x:=⟨_,rfl⟩
 have hb0:Blk w0 w.heap.size #[str m.name,.slice x1 y1 z1,.slice av m.vars.length cv,.slice x3 y3 z3,.slice x4 y4 z4] 32:=by rw [← hw0];exact Blk.new w _ _
 have hc0:Chg [] w w0:=by rw [← hw0];exact(Chg.refl _ _).alloc _
 have hs0 : w0.heap.size=w.heap.size + 1:=by rw [← hw0];simp
 obtain⟨w1,hw1⟩ : ∃ x,w0.alloc (.map #[] 0)=x:=⟨_,rfl⟩
 have hm1:Plan.MapIs w1 w0.heap.size []:=by rw [← hw1];exact Plan.MapIs.made w0
 have hc1:Chg [] w0 w1:=by rw [← hw1];exact(Chg.refl _ _).alloc _
 have d2:=(hb0.kept hc1 (by simp)).cell 2 _ rfl;obtain⟨bm,hbm⟩ : ∃ b,b=w0.heap.size:=⟨_,rfl⟩
 have HBM:=zh (show bm=w.heap.size + 1 by omega);have HROW:=zh (row_lt hrow);have HC:=zh (hc0.then hc1);have HM:=zh hm1;have HLEN:=zh hlen;have HSZ:=zh (show bm < w1.heap.size by rw [hbm];exact hm1.lt);clear hrow hb0 hc0 hs0 hm1 hc1 hlen
 go_enter Tryz.func39,Tryz.ntmps39
 go_wp2_with fail;rw [← hbm];rw [← hbm] at HM;clear hw0 hw1 hbm d2
 go_loopw [5,10] (fun _ i wr=>∃ (k:Nat) (dim:Nm→Option (Nat × Nat)) (arrs:List Nat),i = .int .i64 k∧k≤m.vars.length∧VarsAt wr w.heap.size bm (m.vars.take k) dim arrs∧(∀ a∈arrs,bm < a)∧Chg [bm] w1 wr) (fun _ i _=>m.vars.length - (intOf i).toNat)
 case atStart=>exact⟨0,fun _=>none,[],rfl,Nat.zero_le _,⟨⟨[],HM.out,fun n=>rfl⟩,(fun h=>by cases h),(fun h=>by cases h),(fun h=>by cases h),fun n=>rfl⟩,(fun a h=>by cases h),Chg.refl _ _⟩
 case round=>
  obtain⟨k,dim,arrs,rfl,hk,hva,hgt,hc⟩:=hrel;have HVA:=zh hva;have HGT:=zh hgt;have HC2:=zh hc;by_cases hlt : k < m.vars.length
  ·obtain⟨g,hgk⟩ : ∃ g,m.vars[k]?=some g:=⟨m.vars[k],List.getElem?_eq_getElem hlt⟩
   obtain⟨bb,off,rfl,d0,d1,d2,d3⟩:=Check.glob_cells ((HROW.out.kept HC.out (by simp)).kept hc (fun x hx hh=>by have:=hh.1;have:=HBM.out;simp at hx;omega)) hgk;have hz:=Blk.new wr #[str [],num 0,num 0,.bool false] 68;obtain⟨wA,hwA⟩ : ∃ wA,wr.alloc (.cells #[str [],num 0,num 0,.bool false] 68)=wA:=⟨_,rfl⟩
   rw [hwA] at hz;have hcA:Chg [] wr wA:=by rw [← hwA];exact(Chg.refl _ _).alloc _
   obtain⟨wF,hwF,hcF,hbF⟩:=set4R (str g.name) (num g.pos) (num g.len) (.bool g.seen) hz;have hcw:Chg [] wr wF:=hcA.trans hcF (fun x hx=>.inr (by simp at hx;omega));have g0:=hcA.cellSome d0 (by simp);have g1:=hcA.cellSome d1 (by simp);have g2:=hcA.cellSome d2 (by simp);have g3:=hcA.cellSome d3 (by simp);have z0:=hz.cell 0 _ rfl;have z1:=hz.cell 1 _ rfl;have z2:=hz.cell 2 _ rfl;have z3:=hz.cell 3 _ rfl;have y0:=hz.frozen 0;have y1:=hz.frozen 1;have y2:=hz.frozen 2;have y3:=hz.frozen 3;have e0:=hbF.cell 0 _ rfl;have e2:=hbF.cell 2 _ rfl;obtain⟨hl0,hl30⟩:=HLEN.out g (List.mem_of_getElem? hgk);have hmx : max g.len 1=((sizeG g:Nat):Int):=by rw [sizeG];omega
   have hsz1 : 1≤sizeG g∧sizeG g≤30:=by rw [sizeG];omega
   have hmk:=make_ints wF.drew (sizeG g) (by omega);obtain⟨w5,hw5⟩ : ∃ x,wF.drew.alloc (.cells (ints (zeros (sizeG g))).toArray i64T)=x:=⟨_,rfl⟩
   rw [hw5] at hmk;have hc5:Chg [] wr w5:=hcw.then (by rw [← hw5];exact(Chg.refl _ _).drew.alloc _)
   have hcF5:Chg [] wF w5:=by rw [← hw5];exact(Chg.refl _ _).drew.alloc _
   have i0:=hcF5.cellSome e0 (by simp);have i2:=hcF5.cellSome e2 (by simp);have hb5:Blk w5 wF.heap.size (ints (zeros (sizeG g))).toArray i64T:=by rw [← hw5];exact Blk.new wF.drew _ _
   have HB5:=zh hb5;clear hcF5 hb5;obtain⟨es,hme,hes⟩:=hva.map;obtain⟨w6,hup,hm6,hc6⟩:=Plan.run_putM (P:=Tryz.prog) Tryz.underlying99 Tryz.underlying9 (hme.kept hc5 (by simp)) g.name (.slice (some ⟨wF.heap.size,0,none⟩) (sizeG g) (sizeG g));have HCW:=zh hcw;have HM6:=zh hm6;have HC5:=zh hc5;have HC6:=zh hc6;have HES:=zh hes;have HGK:=zh hgk;have HS1:=zh hsz1;clear hva hgt hc hz hcA hcF hbF hcw hl0 hl30 hc5 hme hes hm6 hc6 hgk hsz1;go_wp2_with fail
   go_region
   all_goals (try go_wp2_with fail)
   have hsF:=HC5.out.size;have hs6:=HC6.out.size;have hwF5:=HB5.out.lt;have hbm1:=HSZ.out;have hwr1:=HC2.out.size;have hwFr : wr.heap.size≤wF.heap.size:=HCW.out.size;have hne : wF.heap.size≠bm:=by omega
   have hgk:=HGK.out;refine⟨⟨k + 1,fun n=>if g.name=n then some (wF.heap.size,sizeG g) else dim n,wF.heap.size :: arrs,by go_num,by omega,⟨⟨_,HM6.out,fun n=>?_⟩,?_,?_,?_,fun n=>?_⟩,?_,(HC2.out.then HC5.out.weak).then HC6.out⟩,by simp [intOf];omega⟩
   ·rw [Plan.getM_put,HES.out]
    by_cases hn : g.name=n
    ·simp [hn]
    ·simp [hn]
   ·intro n k n' k' a h1 h2
    split at h1 <;> split at h2
    ·next e1 e2=>rw [← e1,← e2]
    ·next e1 e2=>cases h1;have:=((HVA.out.low ((HVA.out.arr h2).1))).2.1;omega
    ·next e1 e2=>cases h2;have:=((HVA.out.low ((HVA.out.arr h1).1))).2.1;omega
    ·exact HVA.out.inj h1 h2
   ·intro n a k h1
    split at h1
    ·cases h1;have:=HS1.out;exact⟨List.mem_cons_self,by omega,by omega⟩
    ·obtain⟨h3,h4⟩:=HVA.out.arr h1;exact⟨List.mem_cons_of_mem _ h3,h4⟩
   ·intro a ha
    rcases List.mem_cons.1 ha with rfl|ha
    ·have:=HBM.out
     exact⟨by omega,by omega,_,HB5.out.kept HC6.out (by simpa using hne)⟩
    ·obtain⟨h3,h4,k',h5⟩:=HVA.out.low ha
     have:=HGT.out a ha;exact⟨h3,by omega,k',(h5.kept HC5.out (by simp)).kept HC6.out (by simp;omega)⟩
   ·rw [take_get hgk,startF_snoc]
    by_cases hn : g.name=n
    ·simp only [hn,if_true]
     exact⟨trivial,HB5.out.kept HC6.out (by simpa using hne)⟩
    ·simp only [hn,if_false]
     have:=HVA.out.is n;cases hd : dim n with
     | none=>rw [hd] at this;exact this
     | some x=>
      rw [hd] at this;have hx:=HGT.out x.1 (HVA.out.arr (show dim n=some (x.1,x.2) from hd)).1;exact⟨this.1,(this.2.kept HC5.out (by simp)).kept HC6.out (by simp;omega)⟩
   ·intro a ha
    rcases List.mem_cons.1 ha with rfl|ha
    ·omega
    ·exact HGT.out a ha
  ·have hkn : k=m.vars.length:=by omega
   have HV2:=zh (show VarsAt wr w.heap.size bm m.vars dim arrs by rw [List.take_of_length_le (by omega)] at hva;exact hva);clear hva hgt hc;go_wp2_with fail;go_ret
   exact⟨bm,dim,arrs,rfl,by have:=HBM.out;omega,HV2.out,HC.out.trans HC2.out (fun x hx=>.inr (by have:=HBM.out;simp at hx;omega))⟩
end Go.Proofs.YtechofppmnnomaaGreatDoor
