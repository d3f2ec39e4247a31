/- Some texts in one. -/
import Derived.Test.YtechofppmnnomaaGreatDoorB21
namespace Go.Mq.Run
open Go Go.RowKit Go.Mq Go.Mq.Tree
structure Home (w:World) (L:Lay) (vs:Vs):Prop where
 lay : ∀ br,w.heap.size≤br→CS { L with br:=br }
 stat:Stat w L
 dyn:yL w L.au vs
 oJ : ∀ {b},b∈L.ay → ∃ cs f,w.heap[b]?=some (.cells cs bO f)
theorem Home.kept {w w':World} {L:Lay} {vs:Vs} (h:Home w L vs) (hc:ae [] w w'):Home w' L vs:=
 ⟨fun br hb=>h.lay br (by have:=hc.size;omega),h.stat.kept hc (by simp),h.dyn.kept hc (by simp),fun hb=>by
  obtain⟨cs,f,hh⟩:=h.oJ hb;exact⟨cs,f,by rw [hc.block _ (Array.getElem?_eq_some_iff.1 hh).1 (by simp)];exact hh⟩⟩
theorem Stat.br {w:World} {L:Lay} (h:Stat w L) (br:Nat):Stat w { L with br:=br }:=⟨h.own,h.at_⟩
theorem Home.going {w:World} {L:Lay} {vs:Vs} (h:Home w L vs) {w':World} {br f:Nat} (hc:ae [] w w') (hb : w.heap.size≤br) (hr:ag w' br #[ptr L.bw,num f,num 0,ah] 160) (hf : f≤9223372036854775807):Going w' { L with br:=br } 0 ⟨f,[],vs⟩ ah:=
 ⟨h.lay br hb,(h.kept hc).stat.br br,by simpa using hr,(h.kept hc).dyn,(h.kept hc).oJ,World.ownsRow_nil _ _ _ _,From.nil _,by simp,by simp,hf⟩
theorem Going.home {w:World} {L:Lay} {br d:Nat} {s:St} {ov:Value} (h:Going w { L with br:=br } d s ov) {w':World} {Z:List Nat} (hc:ae Z w w') (hZ : ∀ x∈Z,¬ L.Fix x∧x∉L.ay):Home w' L s.vs:=
 ⟨fun br' hb=>by
  have hl:=h.lay;have hbr:=h.run.lt;have hs:=hc.size;simp only at hbr;exact⟨hl.inj,hl.arr,fun hx=>⟨(hl.ay hx).1,by have:=(hl.ay hx).2;simp only at this ⊢;omega⟩,fun hx=>by have:=hl.fix hx;simp only at this ⊢;omega,hl.there⟩,
  (show Stat w L from⟨h.stat.own,h.stat.at_⟩).kept hc (fun x hx=>(hZ x hx).1),h.dyn.kept hc (fun q n b k hd hm=>(hZ b hm).2 (h.lay.arr hd).1),fun {b} hb=>by
  obtain⟨cs,f,hh⟩:=h.oJ hb;exact⟨cs,f,by rw [hc.block _ (Array.getElem?_eq_some_iff.1 hh).1 (fun hm=>(hZ _ hm).2 hb)];exact hh⟩⟩
theorem Home.low {w:World} {L:Lay} {vs:Vs} (h:Home w L vs) {x:Nat} (hx : w.heap.size≤x) : ¬ L.Fix x∧x∉L.ay:=
 ⟨fun hf=>by have:=(h.lay w.heap.size (Nat.le_refl _)).fix hf;simp only at this;omega,fun ha=>by have:=((h.lay w.heap.size (Nat.le_refl _)).ay ha).2;simp only at this;omega⟩
def DL (w:World) (lo way:Nat) (out:List Int) (v:Value):Prop:=∃ ov,v = .agg #[num way,ov]∧w.ownsRow 0 bO 1 ov out.length (ints out)∧From lo ov
def zt {α:Type} : O α→Nat
 | .ok _ _=>1
 | .stop way _=>way
 | .stuck=>0
def tX {α:Type} (s0:St):O α→St
 | .ok _ s=>s
 | .stop _ s=>s
 | .stuck=>s0
end Go.Mq.Run
namespace Go.Proofs.YtechofppmnnomaaGreatDoor
open Go Go.RowKit Go.Mq Go.Mq.Tree Go.Mq.Run
set_option maxRecDepth 100000
set_option maxHeartbeats 4000000
theorem aaU (be bv br:Nat) (e0 e1 c0 c1 c2:Value) (oa:Option Addr) (on oc:Nat) (w:World) (hv : w.cell? ⟨bv,0,none⟩=some (ptr br)) (he:ag w be #[e0,e1] 43) (hr:ag w br #[c0,c1,c2,.slice oa on oc] 160):CallsD Tryz.prog 81 #[ptr be,ptr bv] .returning w fun e u' w'=>
   e = .returned (.tuple #[])∧u' = .returning∧ae [be] w w'∧ag w' be #[e0,.slice oa on oc] 43:=by
 refine callsD_of_wpS Tryz.func81 rfl fun c₀ cs hu=>?_
 simp only [Tryz.ntmps81,List.size_toArray,List.length_cons,List.length_nil,Nat.reduceAdd,Nat.reduceSub,Array.replicate_succ,Array.replicate_zero,List.push_toArray,List.append_toArray,List.nil_append,List.cons_append];have r3:=hr.cell 3 _ rfl;have y1:=he.frozen 1;have z1:=he.cell 1 _ rfl;have HE:=zh he;clear hr he
 apply wpS_seq
 apply wpS_seq
 apply wpS_region
 simp [wpOpsS,go_sem,recoverD,hu,Exit.thenS]
 refine wpS_of_wp ?_;go_wp2_with fail;refine wpS_of_wp ?_;go_wp2_with fail;have hset:=HE.out.set 1 (.slice oa on oc);have hch:ae [be] w (w.setCell ⟨be,1,none⟩ (.slice oa on oc)):=ae.set1 _ _ _ _;refine⟨rfl,.returning,by cases c₀;simp_all,.tuple #[],results_none rfl _ _ _,rfl,rfl,?_⟩;exact⟨hch,by simpa using hset⟩
theorem aaV (be bv br way:Nat) (older:List PanicEntry) (e0 e1 c0 c1 c2:Value) (oa:Option Addr) (on oc:Nat) (w:World) (hv : w.cell? ⟨bv,0,none⟩=some (ptr br)) (he:ag w be #[e0,e1] 43) (hr:ag w br #[c0,c1,c2,.slice oa on oc] 160) (hne : be≠br) (nS : be≠bv) :
  CallsD Tryz.prog 81 #[ptr be,ptr bv] (.panicking ({ v:=kJ way,recovered:=false } :: older)) w fun e u' w'=>
   e = .returned (.tuple #[])∧u' = .panicking ({ v:=kJ way,recovered:=true } :: older)∧ae [be] w w'∧ag w' be #[num way,.slice oa on oc] 43:=by
 have yA : ∀ w,(Instr.typeAssert (kJ way) 20 162 true).run Tryz.prog w = .ok (.tuple #[.agg #[num way],.bool true]) w:=fun _=>rfl
 refine callsD_of_wpS Tryz.func81 rfl fun c₀ cs hu=>?_
 simp only [Tryz.ntmps81,List.size_toArray,List.length_cons,List.length_nil,Nat.reduceAdd,Nat.reduceSub,Array.replicate_succ,Array.replicate_zero,List.push_toArray,List.append_toArray,List.nil_append,List.cons_append];obtain⟨wX,lM⟩ : ∃ x,w.alloc (.cells #[num 0] 162)=x:=⟨_,rfl⟩
 have hx:=ag.new w #[num 0] 162;rw [lM] at hx;have iT:ae [] w wX:=by rw [← lM];exact(ae.refl _ _).alloc _
 have x0:=hx.cell 0 _ rfl;have xf:=hx.frozen 0;obtain⟨w1,hw1⟩ : ∃ x,wX.setCell ⟨w.heap.size,0,none⟩ (num way)=x:=⟨_,rfl⟩
 have hx1:ag w1 w.heap.size #[num way] 162:=by rw [← hw1];simpa using hx.set 0 (num way)
 have hc1:ae [] w w1:=iT.trans (by rw [← hw1];exact ae.set1 _ _ _ _) (fun x hx=>.inr (by simp at hx;omega));have x1:=hx1.cell 0 _ rfl;have he1:=he.kept hc1 (by simp);have f0:=he1.frozen 0;have d0:=he1.cell 0 _ rfl;obtain⟨w2,hw2⟩ : ∃ x,w1.setCell ⟨be,0,none⟩ (num way)=x:=⟨_,rfl⟩
 have nR:ae [be] w1 w2:=by rw [← hw2];exact ae.set1 _ _ _ _
 have he2:ag w2 be #[num way,e1] 43:=by rw [← hw2];simpa using he1.set 0 (num way)
 have hr2:=(hr.kept hc1 (by simp)).kept nR (by simpa using Ne.symm hne);have q4:=nR.aH (hc1.aH hv (by simp)) (by simpa using Ne.symm nS);have r3:=hr2.cell 3 _ rfl;have f1:=he2.frozen 1;have d1:=he2.cell 1 _ rfl;have HE2:=zh he2;have HC:=zh (hc1.weak.then nR);clear hr he hx iT hx1 hc1 he1 nR he2 hr2 hne nS hv
 apply wpS_seq
 apply wpS_seq
 apply wpS_region
 simp [wpOpsS,go_sem,recoverD,hu,Exit.thenS]
 refine wpS_of_wp ?_;go_wp2_with fail;refine wpS_of_wp ?_;go_wp2_with fail;have hset:=HE2.out.set 1 (.slice oa on oc);have hch:ae [be] w2 (w2.setCell ⟨be,1,none⟩ (.slice oa on oc)):=ae.set1 _ _ _ _;refine⟨rfl,.panicking ({ v:=kJ way,recovered:=true } :: older),rfl,.tuple #[],results_none rfl _ _ _,rfl,rfl,?_⟩;exact⟨HC.out.then hch,by simpa using hset⟩
theorem QX (tmps:Array Value) (be:Nat) (v0 v1:Value) (w:World) (h6 : tmps[6]?.getD undef=ptr be) (hb:ag w be #[v0,v1] 43) : (results Tryz.f40 tmps).run Tryz.prog w = .ok (.agg #[v0,v1]) w:=by
 have d0:=hb.cell 0 _ rfl;have d1:=hb.cell 1 _ rfl;simp [results,Tryz.results40,h6,go_sem,d0,d1]
theorem QY (tmps:Array Value) (be bv br way:Nat) (older:List PanicEntry) (hol : older.dropWhile (!·.goexit)=[]) (e0 e1 c0 c1 c2:Value) (oa:Option Addr) (on oc:Nat) (w:World) (R:Ending→World→Prop) (h6 : tmps[6]?.getD undef=ptr be) (hv : w.cell? ⟨bv,0,none⟩=some (ptr br)) (he:ag w be #[e0,e1] 43) (hr:ag w br #[c0,c1,c2,.slice oa on oc] 160) (hne : be≠br) (nS : be≠bv)
  (hR : ∀ w',ae [be] w w'→R (.returned (.agg #[num way,.slice oa on oc])) w') :
  Leaves Tryz.prog Tryz.f40 tmps R [{ target:=.fn (.func 81) #[ptr be,ptr bv],args:=#[] }] (.panicking ({ v:=kJ way,recovered:=false } :: older)) w:=by
 refine leaves_cons (f:=81) (args:=#[ptr be,ptr bv]) (by simp) (by simp [go_sem]) ?_;refine(aaV be bv br way older e0 e1 c0 c1 c2 oa on oc w hv he hr hne nS).mono ?_;rintro e u' w'' ⟨rfl,rfl,hc,hb⟩;have hs : settle (.panicking ({ v:=kJ way,recovered:=true } :: older)) = .returning:=by simp only [settle,hol]
 show Leaves _ _ _ _ [] (settle (.panicking ({ v:=kJ way,recovered:=true } :: older))) w''
 rw [hs];exact⟨_,QX tmps be _ _ w'' h6 hb,hR w'' hc⟩
theorem QZ (tmps:Array Value) (be bv br:Nat) (e0 e1 c0 c1 c2:Value) (oa:Option Addr) (on oc:Nat) (w:World) (R:Ending→World→Prop) (h6 : tmps[6]?.getD undef=ptr be) (hv : w.cell? ⟨bv,0,none⟩=some (ptr br)) (he:ag w be #[e0,e1] 43) (hr:ag w br #[c0,c1,c2,.slice oa on oc] 160)
  (hR : ∀ w',ae [be] w w'→R (.returned (.agg #[e0,.slice oa on oc])) w') :
  Leaves Tryz.prog Tryz.f40 tmps R [{ target:=.fn (.func 81) #[ptr be,ptr bv],args:=#[] }] .returning w:=by
 refine leaves_cons (f:=81) (args:=#[ptr be,ptr bv]) (by simp) (by simp [go_sem]) ?_;refine(aaU be bv br e0 e1 c0 c1 c2 oa on oc w hv he hr).mono ?_;rintro e u' w'' ⟨rfl,rfl,hc,hb⟩;exact⟨_,QX tmps be _ _ w'' h6 hb,hR w'' hc⟩
end Go.Proofs.YtechofppmnnomaaGreatDoor
namespace Go.Proofs.YtechofppmnnomaaGreatDoor
open Go Go.RowKit Go.Mq Go.Mq.Tree Go.Mq.Run
set_option maxRecDepth 100000
set_option maxHeartbeats 4000000
theorem aaW {α:Type} (di:FuncId) (k0 k1:Value) (hF : ∀ (args:Array Value) (w:World),(callFunc di args).run Tryz.prog w = .ok (.enter di args) w) (o:O α) (V:World→α→Ending→Prop) (DN : ∀ w a e,V w a e→e = .returned (.tuple #[])) (L:Lay) (vs:Vs) (fuel:Nat) (hfu : fuel≤9223372036854775807) (X:List Nat) (w:World) (h:Home w L vs) (hX : ∀ x∈X,x < w.heap.size) (ho : o ≠ .stuck)
  (hf : ∀ w1 br,w.heap.size≤br→ae [] w w1→Going w1 { L with br:=br } 0 ⟨fuel,[],vs⟩ ah→Calls Tryz.prog di #[ptr br,k0,k1] w1 (aj w1 { L with br:=br } 0 ah X V o)) :
  Calls Tryz.prog 40 #[ptr L.bw,num fuel,.func (.func di) #[] #[k0,k1]] w (fun e w'=>∃ v,e = .returned v∧DL w' w.heap.size (zt o) (tX ⟨fuel,[],vs⟩ o).out v∧Home w' L (tX ⟨fuel,[],vs⟩ o).vs∧ae (X ++ L.ay) w w'∧(∀ a s,o = .ok a s → ∃ w2,V w2 a (.returned (.tuple #[]))∧ae [w.heap.size] w2 w')):=by
 have mO : ∀ (fn:Fn) (first cap:Array Value) (w:World),(Instr.makeFunc fn first cap).run Tryz.prog w = .ok (.func fn first cap) w:=fun _ _ _ _=>rfl
 obtain⟨w0,hw0⟩ : ∃ x,w.alloc (.cells #[num 0,ah] 43)=x:=⟨_,rfl⟩
 have hb0:ag w0 w.heap.size #[num 0,ah] 43:=by rw [← hw0];exact ag.new w _ _
 have hc0:ae [] w w0:=by rw [← hw0];exact(ae.refl _ _).alloc _
 have hs0 : w0.heap.size=w.heap.size + 1:=by rw [← hw0];simp
 obtain⟨w1,hw1⟩ : ∃ x,w0.alloc (.cells #[ptr L.bw,num fuel,num 0,ah] 160)=x:=⟨_,rfl⟩
 have hb1:ag w1 w0.heap.size #[ptr L.bw,num fuel,num 0,ah] 160:=by rw [← hw1];exact ag.new w0 _ _
 have hc1:ae [] w0 w1:=by rw [← hw1];exact(ae.refl _ _).alloc _
 have hs1 : w1.heap.size=w0.heap.size + 1:=by rw [← hw1];simp
 obtain⟨w2,hw2⟩ : ∃ x,w1.alloc (.cells #[aJ] 104)=x:=⟨_,rfl⟩
 have hb2:ag w2 w1.heap.size #[aJ] 104:=by rw [← hw2];exact ag.new w1 _ _
 have hc2:ae [] w1 w2:=by rw [← hw2];exact(ae.refl _ _).alloc _
 obtain⟨w3,hw3⟩ : ∃ x,w2.setCell ⟨w1.heap.size,0,none⟩ (ptr w0.heap.size)=x:=⟨_,rfl⟩
 have hb3:ag w3 w1.heap.size #[ptr w0.heap.size] 104:=by rw [← hw3];simpa using hb2.set 0 (ptr w0.heap.size)
 have hc3:ae [w1.heap.size] w2 w3:=by rw [← hw3];exact ae.set1 _ _ _ _
 have f2:=hb2.frozen 0;have z2:=hb2.cell 0 _ rfl;have hcw:ae [] w w3:=((hc0.then hc1).then hc2).trans hc3 (fun x hx=>.inr (by simp at hx;omega));have hrun:ag w3 w0.heap.size #[ptr L.bw,num fuel,num 0,ah] 160:=(hb1.kept hc2 (by simp)).kept hc3 (by simp;omega);have hend:ag w3 w.heap.size #[num 0,ah] 43:=((hb0.kept hc1 (by simp)).kept hc2 (by simp)).kept hc3 (by simp;omega);have hg:=h.going hcw (show w.heap.size≤w0.heap.size by omega) hrun hfu;have bS:=zh (hf w3 w0.heap.size (by omega) hcw hg);have x3:=hb3.cell 0 _ rfl;obtain⟨tgt,ht⟩ : ∃ q,q=o:=⟨_,rfl⟩
 obtain⟨br,hbr⟩ : ∃ b,b=w0.heap.size:=⟨_,rfl⟩
 obtain⟨bv,hbv⟩ : ∃ b,b=w1.heap.size:=⟨_,rfl⟩
 have fC:=zh (show w.heap.size < br∧br < bv∧bv < w3.heap.size by have:=hb3.lt;omega);have HG:=zh hg;have aC:=zh hcw;have qi:=zh hend;have HB3:=zh hb3;have HO:=zh ho;have zu:=zh DN;have HX:=zh hX;have HT:=zh ht;have HH:=zh h;clear hb0 hc0 hs0 hb1 hc1 hs1 hb2 hc2 hb3 hc3 hcw hrun hend hg ho DN hX ht h hf
 go_enter_defers Tryz.func40,Tryz.ntmps40
 go_wp2_with fail;rw [← hbr,← hbv];rw [← hbr] at bS HG HB3;rw [← hbv] at HB3;clear hw0 hw1 hw2 hw3 f2 z2 x3 hbr hbv;refine bS.out.mono ?_;rintro e w4 ⟨aR,hm,hc,hres⟩;have fZ:=fC.out;have hnb : ∀ x,w.heap.size≤x→x≠br→x∉X ++ aL { L with br:=br } ah:=fun x hx hne hm=>by
  rcases List.mem_append.1 hm with hm|hm
  ·have:=HX.out x hm;omega
  ·rcases List.mem_cons.1 hm with hm|hm
   ·exact hne hm
   ·exact(HH.out.low hx).2 (by simpa [blk] using hm)
 have nT:=qi.out.kept hc (hnb _ (Nat.le_refl _) (by omega));have hv4:=(HB3.out.kept hc (hnb _ (by omega) (by omega))).cell 0 _ rfl;have tY:=zh nT;have u7:=zh hv4;have HC:=zh hc;have HM:=zh hm;have hpost : ∀ w',ae [w.heap.size] w4 w'→ae (X ++ L.ay) w w':=fun w' hc'=>by
  refine((aC.out.weak).trans HC.out (fun x hx=>?_)).trans hc' (fun x hx=>.inr (by simp at hx;omega));rcases List.mem_append.1 hx with hx|hx
  ·exact .inl (List.mem_append_left _ hx)
  ·rcases List.mem_cons.1 hx with rfl|hx
   ·exact .inr (by omega)
   ·exact .inl (List.mem_append_right _ (by simpa [blk] using hx))
 have HP:=zh hpost;have hlow:=HH.out.low (Nat.le_refl w.heap.size);have zw:=zh hlow;cases o with
 | stuck=>exact hres.elim
 | stop way s=>
  obtain⟨⟨older,hol,rfl⟩,d',hg4⟩:=hres;obtain⟨oa,oc,rfl⟩:=gu hg4.out;have gL:=zh hg4;have DR:=zh hol;clear hg4 hol hc hm hnb nT hv4 hpost hlow;go_wp2_with fail;refine QY _ w.heap.size bv br way older DR.out _ _ _ _ _ oa _ oc w4 _ rfl u7.out tY.out gL.out.run (by omega) (by omega) (fun w' hc'=>?_);have hfr:=gL.out.from_;refine⟨_,rfl,⟨_,rfl,cK gL.out.out hc' (fun x hx hm=>by have:=hfr x hx;simp at hm this;omega),fun x hx=>by have:=hfr x hx;simp at this;omega⟩,gL.out.home hc' (fun x hx=>by simp at hx;subst hx;exact zw.out),HP.out w' hc',fun a s h=>by cases h⟩
 | ok a s=>
  obtain⟨hV,hg4⟩:=hres;have je:=zu.out _ _ _ hV;subst je;obtain⟨oa,oc,rfl⟩:=gu hg4.out;have gL:=zh hg4;have HV:=zh hV;have f0:=nT.frozen 0;have f1:=nT.frozen 1;have g0:=nT.cell 0 _ rfl;have g1:=nT.cell 1 _ rfl;clear hg4 hV hc hm hnb nT hv4 hpost hlow;go_wp2_with fail;have hcb:ae [w.heap.size] w4 (((w4.setCell ⟨w.heap.size,0,none⟩ (num 1)).setCell ⟨w.heap.size,0,none⟩ (num 1)).setCell ⟨w.heap.size,1,none⟩ ah):=((ae.set1 _ _ _ _).then (ae.set1 _ _ _ _)).then (ae.set1 _ _ _ _)
  have hbb:=((tY.out.set 0 (num 1)).set 0 (num 1)).set 1 ah;refine QZ _ w.heap.size bv br (num 1) ah _ _ _ oa _ oc _ _ rfl (hcb.aH u7.out (by simp;omega)) (by simpa using hbb) (gL.out.run.kept hcb (by simp;omega)) (fun w' hc'=>?_);have hct:=hcb.then hc'
  have hfr:=gL.out.from_;exact⟨_,rfl,⟨_,rfl,cK gL.out.out hct (fun x hx hm=>by have:=hfr x hx;simp at hm this;omega),fun x hx=>by have:=hfr x hx;simp at this;omega⟩,gL.out.home hct (fun x hx=>by simp at hx;subst hx;exact zw.out),HP.out w' hct,fun a' s' h=>by cases h;exact⟨w4,HV.out,hct⟩⟩
theorem aaX {α:Type} (di:FuncId) (k0 k1 k2 k3:Value) (hF : ∀ (args:Array Value) (w:World),(callFunc di args).run Tryz.prog w = .ok (.enter di args) w) (o:O α) (V:World→α→Ending→Prop) (DN : ∀ w a e,V w a e→e = .returned (.tuple #[])) (L:Lay) (vs:Vs) (fuel:Nat) (hfu : fuel≤9223372036854775807) (X:List Nat) (w:World) (h:Home w L vs) (hX : ∀ x∈X,x < w.heap.size) (ho : o ≠ .stuck)
  (hf : ∀ w1 br,w.heap.size≤br→ae [] w w1→Going w1 { L with br:=br } 0 ⟨fuel,[],vs⟩ ah→Calls Tryz.prog di #[ptr br,k0,k1,k2,k3] w1 (aj w1 { L with br:=br } 0 ah X V o)) :
  Calls Tryz.prog 40 #[ptr L.bw,num fuel,.func (.func di) #[] #[k0,k1,k2,k3]] w (fun e w'=>∃ v,e = .returned v∧DL w' w.heap.size (zt o) (tX ⟨fuel,[],vs⟩ o).out v∧Home w' L (tX ⟨fuel,[],vs⟩ o).vs∧ae (X ++ L.ay) w w'∧(∀ a s,o = .ok a s → ∃ w2,V w2 a (.returned (.tuple #[]))∧ae [w.heap.size] w2 w')):=by
 have mO : ∀ (fn:Fn) (first cap:Array Value) (w:World),(Instr.makeFunc fn first cap).run Tryz.prog w = .ok (.func fn first cap) w:=fun _ _ _ _=>rfl
 obtain⟨w0,hw0⟩ : ∃ x,w.alloc (.cells #[num 0,ah] 43)=x:=⟨_,rfl⟩
 have hb0:ag w0 w.heap.size #[num 0,ah] 43:=by rw [← hw0];exact ag.new w _ _
 have hc0:ae [] w w0:=by rw [← hw0];exact(ae.refl _ _).alloc _
 have hs0 : w0.heap.size=w.heap.size + 1:=by rw [← hw0];simp
 obtain⟨w1,hw1⟩ : ∃ x,w0.alloc (.cells #[ptr L.bw,num fuel,num 0,ah] 160)=x:=⟨_,rfl⟩
 have hb1:ag w1 w0.heap.size #[ptr L.bw,num fuel,num 0,ah] 160:=by rw [← hw1];exact ag.new w0 _ _
 have hc1:ae [] w0 w1:=by rw [← hw1];exact(ae.refl _ _).alloc _
 have hs1 : w1.heap.size=w0.heap.size + 1:=by rw [← hw1];simp
 obtain⟨w2,hw2⟩ : ∃ x,w1.alloc (.cells #[aJ] 104)=x:=⟨_,rfl⟩
 have hb2:ag w2 w1.heap.size #[aJ] 104:=by rw [← hw2];exact ag.new w1 _ _
 have hc2:ae [] w1 w2:=by rw [← hw2];exact(ae.refl _ _).alloc _
 obtain⟨w3,hw3⟩ : ∃ x,w2.setCell ⟨w1.heap.size,0,none⟩ (ptr w0.heap.size)=x:=⟨_,rfl⟩
 have hb3:ag w3 w1.heap.size #[ptr w0.heap.size] 104:=by rw [← hw3];simpa using hb2.set 0 (ptr w0.heap.size)
 have hc3:ae [w1.heap.size] w2 w3:=by rw [← hw3];exact ae.set1 _ _ _ _
 have f2:=hb2.frozen 0;have z2:=hb2.cell 0 _ rfl;have hcw:ae [] w w3:=((hc0.then hc1).then hc2).trans hc3 (fun x hx=>.inr (by simp at hx;omega));have hrun:ag w3 w0.heap.size #[ptr L.bw,num fuel,num 0,ah] 160:=(hb1.kept hc2 (by simp)).kept hc3 (by simp;omega);have hend:ag w3 w.heap.size #[num 0,ah] 43:=((hb0.kept hc1 (by simp)).kept hc2 (by simp)).kept hc3 (by simp;omega);have hg:=h.going hcw (show w.heap.size≤w0.heap.size by omega) hrun hfu;have bS:=zh (hf w3 w0.heap.size (by omega) hcw hg);have x3:=hb3.cell 0 _ rfl;obtain⟨tgt,ht⟩ : ∃ q,q=o:=⟨_,rfl⟩
 obtain⟨br,hbr⟩ : ∃ b,b=w0.heap.size:=⟨_,rfl⟩
 obtain⟨bv,hbv⟩ : ∃ b,b=w1.heap.size:=⟨_,rfl⟩
 have fC:=zh (show w.heap.size < br∧br < bv∧bv < w3.heap.size by have:=hb3.lt;omega);have HG:=zh hg;have aC:=zh hcw;have qi:=zh hend;have HB3:=zh hb3;have HO:=zh ho;have zu:=zh DN;have HX:=zh hX;have HT:=zh ht;have HH:=zh h;clear hb0 hc0 hs0 hb1 hc1 hs1 hb2 hc2 hb3 hc3 hcw hrun hend hg ho DN hX ht h hf
 go_enter_defers Tryz.func40,Tryz.ntmps40
 go_wp2_with fail;rw [← hbr,← hbv];rw [← hbr] at bS HG HB3;rw [← hbv] at HB3;clear hw0 hw1 hw2 hw3 f2 z2 x3 hbr hbv;refine bS.out.mono ?_;rintro e w4 ⟨aR,hm,hc,hres⟩;have fZ:=fC.out;have hnb : ∀ x,w.heap.size≤x→x≠br→x∉X ++ aL { L with br:=br } ah:=fun x hx hne hm=>by
  rcases List.mem_append.1 hm with hm|hm
  ·have:=HX.out x hm;omega
  ·rcases List.mem_cons.1 hm with hm|hm
   ·exact hne hm
   ·exact(HH.out.low hx).2 (by simpa [blk] using hm)
 have nT:=qi.out.kept hc (hnb _ (Nat.le_refl _) (by omega));have hv4:=(HB3.out.kept hc (hnb _ (by omega) (by omega))).cell 0 _ rfl;have tY:=zh nT;have u7:=zh hv4;have HC:=zh hc;have HM:=zh hm;have hpost : ∀ w',ae [w.heap.size] w4 w'→ae (X ++ L.ay) w w':=fun w' hc'=>by
  refine((aC.out.weak).trans HC.out (fun x hx=>?_)).trans hc' (fun x hx=>.inr (by simp at hx;omega));rcases List.mem_append.1 hx with hx|hx
  ·exact .inl (List.mem_append_left _ hx)
  ·rcases List.mem_cons.1 hx with rfl|hx
   ·exact .inr (by omega)
   ·exact .inl (List.mem_append_right _ (by simpa [blk] using hx))
 have HP:=zh hpost;have hlow:=HH.out.low (Nat.le_refl w.heap.size);have zw:=zh hlow;cases o with
 | stuck=>exact hres.elim
 | stop way s=>
  obtain⟨⟨older,hol,rfl⟩,d',hg4⟩:=hres;obtain⟨oa,oc,rfl⟩:=gu hg4.out;have gL:=zh hg4;have DR:=zh hol;clear hg4 hol hc hm hnb nT hv4 hpost hlow;go_wp2_with fail;refine QY _ w.heap.size bv br way older DR.out _ _ _ _ _ oa _ oc w4 _ rfl u7.out tY.out gL.out.run (by omega) (by omega) (fun w' hc'=>?_);have hfr:=gL.out.from_;refine⟨_,rfl,⟨_,rfl,cK gL.out.out hc' (fun x hx hm=>by have:=hfr x hx;simp at hm this;omega),fun x hx=>by have:=hfr x hx;simp at this;omega⟩,gL.out.home hc' (fun x hx=>by simp at hx;subst hx;exact zw.out),HP.out w' hc',fun a s h=>by cases h⟩
 | ok a s=>
  obtain⟨hV,hg4⟩:=hres;have je:=zu.out _ _ _ hV;subst je;obtain⟨oa,oc,rfl⟩:=gu hg4.out;have gL:=zh hg4;have HV:=zh hV;have f0:=nT.frozen 0;have f1:=nT.frozen 1;have g0:=nT.cell 0 _ rfl;have g1:=nT.cell 1 _ rfl;clear hg4 hV hc hm hnb nT hv4 hpost hlow;go_wp2_with fail;have hcb:ae [w.heap.size] w4 (((w4.setCell ⟨w.heap.size,0,none⟩ (num 1)).setCell ⟨w.heap.size,0,none⟩ (num 1)).setCell ⟨w.heap.size,1,none⟩ ah):=((ae.set1 _ _ _ _).then (ae.set1 _ _ _ _)).then (ae.set1 _ _ _ _)
  have hbb:=((tY.out.set 0 (num 1)).set 0 (num 1)).set 1 ah;refine QZ _ w.heap.size bv br (num 1) ah _ _ _ oa _ oc _ _ rfl (hcb.aH u7.out (by simp;omega)) (by simpa using hbb) (gL.out.run.kept hcb (by simp;omega)) (fun w' hc'=>?_);have hct:=hcb.then hc'
  have hfr:=gL.out.from_;exact⟨_,rfl,⟨_,rfl,cK gL.out.out hct (fun x hx hm=>by have:=hfr x hx;simp at hm this;omega),fun x hx=>by have:=hfr x hx;simp at this;omega⟩,gL.out.home hct (fun x hx=>by simp at hx;subst hx;exact zw.out),HP.out w' hct,fun a' s' h=>by cases h;exact⟨w4,HV.out,hct⟩⟩
end Go.Proofs.YtechofppmnnomaaGreatDoor
