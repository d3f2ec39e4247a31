/- Some texts in one. -/
import Derived.Test.YtechofppmnnomaaGreatDoorB5
import Derived.Test.YtechofppmnnomaaGreatDoorB20
import Derived.Test.YtechofppmnnomaaGreatDoorB24
import Derived.Test.YtechofppmnnomaaGreatDoorB25
namespace Go.Mq.Run
open Go Go.RowKit Go.Mq Go.Mq.Tree Go.Mq.Sym
open Go.Mq.Check (fI cu bK dx Pq check Out)
open Go.Mq.fo (aZ getM dB)
open Go.Mq.Used (mZ dD RD)
structure Wd where
 M:Ms
 vs:Vs
 order:List Nm
def Wd.zero:Wd:=⟨fun _=>none,fun _ _=>none,[]⟩
structure kL (m:Mod):Prop where
 few:fI m
 wf:CE m
 cnt : mZ m.procs + dD m.body≤1000
theorem G5 {t:List UInt8} {m:Mod} (ht : t.length≤1000) (h : parse t = .ok m):kL m:=by
 obtain⟨hw,hk⟩:=O7 h;exact⟨Pq ht h,hw,by have:=RD m;omega⟩
def bT (M:Ms) (m:Mod):Ms:=fun q=>if q=m.name then some m else M q
def lN (vs:Vs) (m:Mod):Vs:=fun q n=>if q=m.name then jf m.vars n else vs q n
def mi (g:Nat) (W:Wd) (m:Mod) (fuel:Nat):Option (Wd × Nat × List Int × Out):=
 if (W.M m.name).isSome then some (W,0,[],.plain 9)
 else match check m (dP W.M) with
  | .fine=>if W.order.length=10 then some (W,0,[],.plain 12) else
   match (fns (bT W.M m) g).b 0 m.name [] m.body ⟨fuel,[],lN W.vs m⟩ with
   | .stuck=>none
   | .ok _ s=>some (⟨bT W.M m,s.vs,W.order ++ [m.name]⟩,1,s.out,.fine)
   | .stop way s=>some (⟨bT W.M m,s.vs,W.order ++ [m.name]⟩,way,s.out,.fine)
  | o=>some (W,0,[],o)
theorem Home.abB {w w':World} {L:Lay} {vs:Vs} {Z:List Nat} (h:Home w L vs) (hc:ae Z w w') (hZ : ∀ x∈Z,¬ L.Fix x∧x∉L.ay):Home w' L vs:=
 ⟨fun br hb=>h.lay br (by have:=hc.size;omega),h.stat.kept hc (fun x hx=>(hZ x hx).1),h.dyn.kept hc (fun q n b k hd hm=>(hZ b hm).2 (((h.lay w.heap.size (Nat.le_refl _)).arr hd).1)),fun {b} hb=>by
  obtain⟨cs,f,hh⟩:=h.oJ hb;exact⟨cs,f,by rw [hc.block _ (Array.getElem?_eq_some_iff.1 hh).1 (fun hm=>(hZ b hm).2 hb)];exact hh⟩⟩
def ng (w:World) (Own G:Nat→Prop) (bw:Nat) (W:Wd) (L:Lay) (bp:Nat) (ov:Value) (bR:List (Nm × Value)):Prop:=ag w bw #[.map (some bp),ov] 40∧w.ownsRow 0 9 1 ov W.order.length (W.order.map str)∧aZ w bp bR∧(∀ g∈blk ov,L.Fix g∧Own g)∧L.Fix bp∧Own bp ∧ ∀ q,match W.M q with
  | none=>getM bR q=none
  | some m=>getM bR q=some (ptr (L.pb q))∧Own (L.pb q) ∧ ∃ bv,(Own bv∧L.Fix bv∧bv≠bp ∧ ∃ es,aZ w bv es)∧oI w (fun x=>L.Fix x∧(G x∨x=L.pb q∨x=bv)) m (L.au q) (L.pb q)
structure Has (w:World) (Own G:Nat→Prop) (bw:Nat) (W:Wd) (L:Lay):Prop where
 lg:L.bw=bw
 M:L.M=W.M
 fix : ∀ x,L.Fix x→Own x∨G x
 ay : ∀ x,x∈L.ay→Own x
 home:Home w L W.vs
 order : ∃ bp ov bR,ng w Own G bw W L bp ov bR
 inj : ∀ q q',(W.M q).isSome→(W.M q').isSome→L.pb q=L.pb q'→q=q'
structure dZ (w:World) (Own G:Nat→Prop) (bw:Nat) (W:Wd):Prop where
 own:Own bw
 lt : ∀ x,Own x∨G x→x < w.heap.size
 zG : ∀ x,Own x→¬ G x
 good : ∀ q m,W.M q=some m→kL m∧m.name=q
 few:W.order.length≤10
 at_ : (W=Wd.zero∧ag w bw #[.map none,ah] 40) ∨ ∃ L,Has w Own G bw W L
theorem ng.sep {w:World} {Own G:Nat→Prop} {bw:Nat} {W:Wd} {L:Lay} {bp:Nat} {ov:Value} {bR:List (Nm × Value)} (h:ng w Own G bw W L bp ov bR) : bw≠bp∧bw∉blk ov∧bp∉blk ov:=by
 obtain⟨h1,h2,⟨arr,clock,h3,_⟩,_⟩:=h
 unfold ag at h1
 refine⟨(fun e=>by rw [e,h3] at h1;cases h1),fun hm=>?_,fun hm=>?_⟩
 ·rcases h2.2 with⟨rfl,_⟩|⟨g,cap,cur,rfl,_,hg,_⟩
  ·cases hm
  ·simp [blk] at hm;subst hm;rw [h1] at hg;simp at hg
 ·rcases h2.2 with⟨rfl,_⟩|⟨g,cap,cur,rfl,_,hg,_⟩
  ·cases hm
  ·simp [blk] at hm;subst hm;rw [h3] at hg;cases hg
theorem ng.other {w:World} {Own G:Nat→Prop} {bw:Nat} {W:Wd} {L:Lay} {bp:Nat} {ov:Value} {bR:List (Nm × Value)} (h:ng w Own G bw W L bp ov bR) {b:Nat} {cs:Array Value} {t:TypeId} (hb:ag w b cs t) (ht : t≠9) : b≠bp∧b∉blk ov:=by
 obtain⟨_,h2,⟨arr,clock,h3,_⟩,_⟩:=h
 unfold ag at hb
 refine⟨(fun e=>by rw [e,h3] at hb;cases hb),fun hm=>?_⟩;rcases h2.2 with⟨rfl,_⟩|⟨g,cap,cur,rfl,_,hg,_⟩
 ·cases hm
 ·simp [blk] at hm;subst hm;rw [hb] at hg;cases hg;exact ht rfl
theorem ng.Bh {w w':World} {Own G:Nat→Prop} {bw:Nat} {W:Wd} {L:Lay} {bp:Nat} {ov:Value} {bR:List (Nm × Value)} {Z:List Nat} (h:ng w Own G bw W L bp ov bR) (hbw:L.Fix bw) (hc:ae Z w w') (hZ : ∀ x∈Z,¬ L.Fix x):ng w' Own G bw W L bp ov bR:=by
 obtain⟨h1,h2,h3,h4,h5,h6,h7⟩:=h;refine⟨h1.kept hc (fun hm=>hZ bw hm hbw),cK h2 hc (fun g hg hm=>hZ g hm (h4 g hg).1),h3.kept hc (fun hm=>hZ bp hm h5),h4,h5,h6,fun q=>?_⟩;have:=h7 q;cases hq:W.M q with
 | none=>rw [hq] at this;exact this
 | some m=>
  rw [hq] at this;obtain⟨a1,a2,bv,⟨a3,a4,a6,es,a7⟩,a5⟩:=this;exact⟨a1,a2,bv,⟨a3,a4,a6,es,a7.kept hc (fun hm=>hZ bv hm a4)⟩,a5.kept hc (fun x hx hf=>hZ x hx hf.1)⟩
theorem Has.Bh {w w':World} {Own G:Nat→Prop} {bw:Nat} {W:Wd} {L:Lay} {Z:List Nat} (h:Has w Own G bw W L) (hc:ae Z w w') (hZ : ∀ x∈Z,¬ L.Fix x∧x∉L.ay):Has w' Own G bw W L:=by
 obtain⟨bp,ov,bR,h1,h2,h3,h4,h5,h6,h7⟩:=h.order;have hbw:L.Fix bw:=by rw [← h.lg];exact h.home.stat.own
 refine⟨h.lg,h.M,h.fix,h.ay,h.home.abB hc hZ,⟨bp,ov,bR,h1.kept hc (fun hm=>(hZ bw hm).1 hbw),cK h2 hc (fun g hg hm=>(hZ g hm).1 (h4 g hg).1),h3.kept hc (fun hm=>(hZ bp hm).1 h5),h4,h5,h6,fun q=>?_⟩,h.inj⟩;have:=h7 q;cases hq:W.M q with
 | none=>rw [hq] at this;exact this
 | some m=>
  rw [hq] at this;obtain⟨a1,a2,bv,⟨a3,a4,a6,es,a7⟩,a5⟩:=this;exact⟨a1,a2,bv,⟨a3,a4,a6,es,a7.kept hc (fun hm=>(hZ bv hm).1 a4)⟩,a5.kept hc (fun x hx hf=>(hZ x hx).1 hf.1)⟩
theorem Has.kept {w w':World} {Own G:Nat→Prop} {bw:Nat} {W:Wd} {L:Lay} {Z:List Nat} (h:Has w Own G bw W L) (hc:ae Z w w') (hZ : ∀ x∈Z,¬ Own x∧¬ G x):Has w' Own G bw W L:=
 h.Bh hc fun x hx=>⟨fun hf=>by
  rcases h.fix x hf with h1|h1
  ·exact(hZ x hx).1 h1
  ·exact(hZ x hx).2 h1,fun ha=>(hZ x hx).1 (h.ay x ha)⟩
theorem Has.went {w w':World} {Own G:Nat→Prop} {bw:Nat} {W:Wd} {L:Lay} {Z:List Nat} {vs:Vs} (h:Has w Own G bw W L) (hh:Home w' L vs) (hc:ae Z w w') (hZ : ∀ x∈Z,¬ L.Fix x):Has w' Own G bw { W with vs:=vs } L:=by
 obtain⟨bp,ov,bR,h1,h2,h3,h4,h5,h6,h7⟩:=h.order;have hbw:L.Fix bw:=by rw [← h.lg];exact h.home.stat.own
 refine⟨h.lg,h.M,h.fix,h.ay,hh,⟨bp,ov,bR,h1.kept hc (fun hm=>(hZ bw hm) hbw),cK h2 hc (fun g hg hm=>(hZ g hm) (h4 g hg).1),h3.kept hc (fun hm=>(hZ bp hm) h5),h4,h5,h6,fun q=>?_⟩,h.inj⟩;have:=h7 q
 show match W.M q with|none=>_|some m=>_
 cases hq:W.M q with
 | none=>rw [hq] at this;exact this
 | some m=>
  rw [hq] at this;obtain⟨a1,a2,bv,⟨a3,a4,a6,es,a7⟩,a5⟩:=this;exact⟨a1,a2,bv,⟨a3,a4,a6,es,a7.kept hc (fun hm=>hZ bv hm a4)⟩,a5.kept hc (fun x hx hf=>(hZ x hx) hf.1)⟩
theorem dZ.kept {w w':World} {Own G:Nat→Prop} {bw:Nat} {W:Wd} {Z:List Nat} (h:dZ w Own G bw W) (hc:ae Z w w') (hZ : ∀ x∈Z,¬ Own x∧¬ G x):dZ w' Own G bw W:=
 ⟨h.own,fun x hx=>by have:=h.lt x hx;have:=hc.size;omega,h.zG,h.good,h.few,by
  rcases h.at_ with⟨h1,h2⟩|⟨L,h1⟩
  ·exact .inl ⟨h1,h2.kept hc (fun hm=>(hZ bw hm).1 h.own)⟩
  ·exact .inr ⟨L,h1.kept hc hZ⟩⟩
def ql (w:World) (o:Out) (v:Value):Prop:=match o with
 | .fine=>v = .nilIface
 | .plain n=>v = .iface 46 (.int .i64 n)
 | .at_ en p=>∃ b,v = .iface 140 (ptr b)∧ag w b #[.int .i64 en,.int .i64 p] 142
def vF (Own:Nat→Prop) (w w':World):Prop:=∃ Z,ae Z w w' ∧ ∀ x∈Z,Own x
theorem vF.of {Own:Nat→Prop} {w w':World} (h:ae [] w w'):vF Own w w':=⟨[],h,by simp⟩
def More (Own:Nat→Prop) (w w':World):Nat→Prop:=fun x=>Own x∨(w.heap.size≤x∧x < w'.heap.size)
theorem dZ.parts {w:World} {Own G:Nat→Prop} {bw:Nat} {W:Wd} (h:dZ w Own G bw W) : ∃ L:Lay,L.bw=bw∧L.M=W.M∧(∀ x,L.Fix x→x < w.heap.size)∧Parts w L:=by
 rcases h.at_ with⟨rfl,h2⟩|⟨L,h1⟩
 ·exact⟨⟨fun _=>False,fun _=>none,fun _ _=>none,fun _=>0,bw,0,[]⟩,rfl,rfl,fun x hx=>hx.elim,.inl ⟨rfl,h2⟩⟩
 ·exact⟨L,h1.lg,h1.M,fun x hx=>h.lt x (h1.fix x hx),.inr h1.home.stat⟩
end Go.Mq.Run
namespace Go.Proofs.YtechofppmnnomaaGreatDoor
open Go Go.RowKit Go.Mq Go.Mq.Tree Go.Mq.Sym Go.Mq.Run
theorem RI {w:World} {Own G:Nat→Prop} {bw:Nat} {W:Wd} (h:dZ w Own G bw W) :
  Calls Tryz.prog 38 #[ptr bw] w (fun e w'=>∃ v,e = .returned v∧Check.rJ w' (New w w') (dP W.M) v∧ae [] w w'):=by
 obtain⟨L,rfl,hM,hf,hp⟩:=h.parts;rw [← hM];exact abp L w hp hf (fun q m hm=>by
  rw [hM] at hm;have:=(h.good q m hm).1.wf;exact⟨this.oF,this.tq⟩)
end Go.Proofs.YtechofppmnnomaaGreatDoor
namespace Go.Mq.Run
open Go Go.RowKit Go.Mq Go.Mq.Tree
def sj (o:O (Fl × Fr)):O Unit:=o.bind fun _ s=>.ok () s
end Go.Mq.Run
namespace Go.Proofs.YtechofppmnnomaaGreatDoor
open Go Go.RowKit Go.Mq Go.Mq.Tree Go.Mq.Run
open Go.Mq.Check (fI cu bK dx)
set_option maxRecDepth 100000
set_option maxHeartbeats 4000000
theorem abC (w:World):CallsD Tryz.prog 42 #[] .returning w fun e u' w'=>e = .returned (.tuple #[])∧u' = .returning∧w'=w:=by
 refine callsD_of_wpS Tryz.func42 rfl fun c₀ cs hu=>?_
 simp only [Tryz.ntmps42,List.size_toArray,List.length_cons,List.length_nil,Nat.reduceAdd,Nat.reduceSub,Array.replicate_succ,Array.replicate_zero,List.push_toArray,List.append_toArray,List.nil_append,List.cons_append]
 apply wpS_seq
 apply wpS_region
 simp [wpOpsS,go_sem,recoverD,hu,Exit.thenS]
 refine wpS_of_wp ?_;go_wp2_with fail;exact⟨rfl,.returning,by cases c₀;simp_all,.tuple #[],results_none rfl _ _ _,rfl,rfl,rfl⟩
theorem abD (n:Int) (w:World):CallsD Tryz.prog 42 #[] (.panicking [{ v:=uX n,recovered:=false }]) w fun e u' w'=>e = .returned (.tuple #[])∧u' = .panicking [{ v:=uX n,recovered:=true }]∧ae [] w w':=by
 have yA : ∀ w,(Instr.typeAssert (uX n) 20 106 true).run Tryz.prog w = .ok (.tuple #[.agg #[num n],.bool true]) w:=fun _=>rfl
 obtain⟨wX,lM⟩ : ∃ x,w.alloc (.cells #[num 0] 106)=x:=⟨_,rfl⟩
 have hx:=ag.new w #[num 0] 106;rw [lM] at hx;have iT:ae [] w wX:=by rw [← lM];exact(ae.refl _ _).alloc _
 have x0:=hx.cell 0 _ rfl;have xf:=hx.frozen 0;have HC:=zh (show ae [] w (wX.setCell ⟨w.heap.size,0,none⟩ (num n)) from iT.trans (ae.set1 _ _ _ _) (fun x hx=>.inr (by simp at hx;omega)));clear hx iT;refine callsD_of_wpS Tryz.func42 rfl fun c₀ cs hu=>?_
 simp only [Tryz.ntmps42,List.size_toArray,List.length_cons,List.length_nil,Nat.reduceAdd,Nat.reduceSub,Array.replicate_succ,Array.replicate_zero,List.push_toArray,List.append_toArray,List.nil_append,List.cons_append]
 apply wpS_seq
 apply wpS_region
 simp [wpOpsS,go_sem,recoverD,hu,Exit.thenS]
 refine wpS_of_wp ?_;go_wp2_with fail;exact⟨rfl,.panicking [{ v:=uX n,recovered:=true }],rfl,.tuple #[],results_none rfl _ _ _,rfl,rfl,HC.out⟩
theorem abE (way:Nat) (older:List PanicEntry) (w:World):CallsD Tryz.prog 42 #[] (.panicking ({ v:=kJ way,recovered:=false } :: older)) w fun e u' w'=>
   e = .panicked [{ v:=kJ way,recovered:=false }]∧u' = .panicking ({ v:=kJ way,recovered:=true } :: older)∧ae [] w w':=by
 have yA : ∀ w,(Instr.typeAssert (kJ way) 20 106 true).run Tryz.prog w = .ok (.tuple #[.agg #[num 0],.bool false]) w:=fun _=>rfl
 obtain⟨wX,lM⟩ : ∃ x,w.alloc (.cells #[num 0] 106)=x:=⟨_,rfl⟩
 have hx:=ag.new w #[num 0] 106;rw [lM] at hx;have iT:ae [] w wX:=by rw [← lM];exact(ae.refl _ _).alloc _
 have x0:=hx.cell 0 _ rfl;have xf:=hx.frozen 0;have HC:=zh (show ae [] w (wX.setCell ⟨w.heap.size,0,none⟩ (num 0)) from iT.trans (ae.set1 _ _ _ _) (fun x hx=>.inr (by simp at hx;omega)));clear hx iT;refine callsD_of_wpS Tryz.func42 rfl fun c₀ cs hu=>?_
 simp only [Tryz.ntmps42,List.size_toArray,List.length_cons,List.length_nil,Nat.reduceAdd,Nat.reduceSub,Array.replicate_succ,Array.replicate_zero,List.push_toArray,List.append_toArray,List.nil_append,List.cons_append]
 apply wpS_seq
 apply wpS_region
 simp [wpOpsS,go_sem,recoverD,hu,Exit.thenS]
 refine wpS_of_wp ?_;go_wp2_with fail;exact⟨rfl,.panicking ({ v:=kJ way,recovered:=true } :: older),rfl,rfl,rfl,HC.out⟩
theorem abF (g:Nat) {L:Lay} {q:Nm} {m:Mod} {s:St} {w:World} {vb:Value} {b11 b4:Nat} {c0 c1 c2 c3:Value} (h:Going w L 0 s ah) (hq:L.M q=some m) (hb:fT w L.Fix m.body vb) (hfs:cu m.body) (hfl : m.body.len≤1000) (h11 : w.cell? ⟨b11,0,none⟩=some (ptr (L.pb q))) (h4:ag w b4 #[c0,c1,c2,c3,vb] 32) (ho : (fns L.M g).b 0 q [] m.body s ≠ .stuck) :
  Calls Tryz.prog 41 #[ptr L.br,ptr b11,ptr b4] w (aj w L 0 ah [] (fun _ _ e=>e = .returned (.tuple #[])) (sj ((fns L.M g).b 0 q [] m.body s))):=by
 obtain⟨ab,cb,cs,rfl,_,_,_⟩:=id hb;have bS:=zh (aaT g h hq (.inl ⟨rfl,rfl⟩ : eG w none []) (fun b hb=>by cases hb) hb hfs hfl ho);have d4:=h4.cell 4 _ rfl;obtain⟨tgt,ht⟩ : ∃ o,o=(fns L.M g).b 0 q [] m.body s:=⟨_,rfl⟩
 rw [← ht] at bS ho ⊢;obtain⟨tg,Lj⟩ : ∃ o,o=sj tgt:=⟨_,rfl⟩
 rw [← Lj];have eQ:=zh Lj;clear h hq hb hfs hfl h4 ht Lj
 go_enter_defers Tryz.func41,Tryz.ntmps41
 go_wp2_with fail;refine bS.out.mono ?_;rintro e w1 ⟨aR,hm,hc,hres⟩;have HM:=zh hm;have HC:=zh hc;cases tgt with
 | stuck=>exact absurd rfl ho
 | stop way s2=>
  obtain⟨⟨older,hol,rfl⟩,d',hg⟩:=hres;have HG:=zh hg;have DR:=zh hol;clear hm hc hg hol;go_wp2_with fail;refine leaves_cons (f:=42) (args:=#[]) (by simp) (by simp [go_sem]) ?_;refine(abE way older w1).mono ?_;rintro e u' w'' ⟨rfl,rfl,hc⟩
  show aj w L 0 ah [] _ tg _ w''
  rw [eQ.out];exact⟨aR,HM.out,by simpa using HC.out.then hc.weak,⟨_ :: older,by simp [DR.out],rfl⟩,d',HG.out.kept hc⟩
 | ok x s2=>
  obtain⟨fl,fr2⟩:=x;obtain⟨⟨_,hfl⟩,hg⟩:=hres;have HG:=zh hg;clear hm hc hg;cases fl with
  | go=>
   simp only at hfl;subst hfl;go_wp2_with fail;refine leaves_cons (f:=42) (args:=#[]) (by simp) (by simp [go_sem]) ?_;refine(abC w1).mono ?_;rintro e u' w'' ⟨rfl,rfl,rfl⟩;refine⟨.tuple #[],results_none rfl _ _ _,?_⟩;rw [eQ.out];exact⟨aR,HM.out,by simpa using HC.out,rfl,HG.out⟩
  | ret n=>
   simp only at hfl;subst hfl;go_wp2_with fail;refine leaves_cons (f:=42) (args:=#[]) (by simp) (by simp [go_sem]) ?_;refine(abD n w1).mono ?_;rintro e u' w'' ⟨rfl,rfl,hc⟩;refine⟨.tuple #[],results_none rfl _ _ _,?_⟩;rw [eQ.out];exact⟨aR,HM.out,by simpa using HC.out.then hc.weak,rfl,HG.out.kept hc⟩
end Go.Proofs.YtechofppmnnomaaGreatDoor
namespace Go.Mq.Run
open Go Go.RowKit Go.Mq Go.Mq.Tree Go.Mq.Sym
open Go.Mq.Check (fI cu bK dx)
open Go.Mq.fo (aZ getM dB mP)
open Go.Proofs.YtechofppmnnomaaGreatDoor (kK)
theorem oI.mono {w:World} {F F':Nat→Prop} {m:Mod} {au:Nm→Option (Nat × Nat)} {bq:Nat} (h:oI w F m au bq) (hF : ∀ x,F x→F' x):oI w F' m au bq:=by
 obtain⟨h1,h2,ai,ci,av,cv,ap,cp,ab,cb,bv,es,h3,h4,h5,h6,h7⟩:=h;exact⟨hF _ h1,h2,ai,ci,av,cv,ap,cp,ab,cb,bv,es,h3,h4.mono hF,hF _ h5,h6,h7⟩
theorem Has.zero {w:World} {Own G:Nat→Prop} {bw bp:Nat} (h1:ag w bw #[.map (some bp),ah] 40) (h2:aZ w bp []) (hw:Own bw) (hp:Own bp) :
  Has w Own G bw Wd.zero ⟨fun x=>x=bw∨x=bp,fun _=>none,fun _ _=>none,fun _=>0,bw,0,[]⟩:=by
 have jg : ∀ br,w.heap.size≤br→CS ⟨fun x=>x=bw∨x=bp,fun _=>none,fun _ _=>none,fun _=>0,bw,br,[]⟩:=fun br hb=>by
  refine⟨(fun h=>by cases h),(fun h=>by cases h),(fun h=>by cases h),(fun {x} hx=>?_),(fun h=>by cases h)⟩;have:=h1.lt;have:=h2.lt
  show x < br
  rcases hx with rfl|rfl <;> omega
 have hst:Stat w ⟨fun x=>x=bw∨x=bp,fun _=>none,fun _ _=>none,fun _=>0,bw,0,[]⟩:=⟨.inl rfl,bp,[],ah,h1,.inr rfl,h2,fun q=>rfl⟩;refine⟨rfl,rfl,fun x hx=>?_,(fun x hx=>by cases hx),⟨jg,hst,fun q n=>rfl,(fun hb=>by cases hb)⟩,⟨bp,ah,[],h1,⟨rfl,.inl ⟨rfl,rfl⟩⟩,h2,(fun g hg=>by cases hg),.inr rfl,hp,fun q=>rfl⟩,(fun q _ hq=>by cases hq)⟩;rcases hx with rfl|rfl
 ·exact .inl hw
 ·exact .inl hp
theorem abG {w w':World} {lo b:Nat} {l:List bJ} {au:Nm→Option (Nat × Nat)} {ay:List Nat} {Z:List Nat} (h:kK w lo b l au ay) (hc:ae Z w w') (hZ : ∀ x∈Z,x < lo) (hb : lo≤b):kK w' lo b l au ay:=by
 obtain⟨es,h1,h2⟩:=h.map;refine⟨⟨es,h1.kept hc (fun hm=>by have:=hZ _ hm;omega),h2⟩,h.inj,h.arr,fun ha=>?_,fun n=>?_⟩
 ·obtain⟨h3,h4,k,h5⟩:=h.low ha
  exact⟨h3,by have:=hc.size;omega,k,h5.kept hc (fun hm=>by have:=hZ _ hm;omega)⟩
 ·have:=h.is n
  cases hd : au n with
  | none=>rw [hd] at this;exact this
  | some x=>
   rw [hd] at this;have hx:=(h.low (h.arr (show au n=some (x.1,x.2) from hd)).1).1;exact⟨this.1,this.2.kept hc (fun hm=>by have:=hZ _ hm;omega)⟩
theorem Has.mono {w:World} {Own Own' G:Nat→Prop} {bw:Nat} {W:Wd} {L:Lay} (h:Has w Own G bw W L) (hO : ∀ x,Own x→Own' x):Has w Own' G bw W L:=by
 obtain⟨bp,ov,bR,g1,g2,g3,g4,g5,g6,g7⟩:=h.order;refine⟨h.lg,h.M,fun x hx=>(h.fix x hx).imp (hO x) id,fun x hx=>hO x (h.ay x hx),h.home,⟨bp,ov,bR,g1,g2,g3,fun g hg=>⟨(g4 g hg).1,hO g (g4 g hg).2⟩,g5,hO _ g6,fun q=>?_⟩,h.inj⟩;have:=g7 q;cases hq:W.M q with
 | none=>rw [hq] at this;exact this
 | some m=>
  rw [hq] at this;obtain⟨a1,a2,bv,⟨a3,a4⟩,a5⟩:=this;exact⟨a1,hO _ a2,bv,⟨hO _ a3,a4⟩,a5⟩
def Lay.more (L:Lay) (m:Mod) (Gm:Nat→Prop) (lo hi t b:Nat) (au:Nm→Option (Nat × Nat)) (ay:List Nat):Lay:=
 ⟨fun x=>L.Fix x∨Gm x∨(lo≤x∧x < hi∧x∉ay∧x≠t),bT L.M m,fun q=>if q=m.name then au else L.au q,fun q=>if q=m.name then b else L.pb q,L.bw,L.br,L.ay ++ ay⟩
theorem Has.more {w wS:World} {Own Own' G Gm:Nat→Prop} {bw:Nat} {W:Wd} {L:Lay} {m:Mod} {lo t b bv bp:Nat} {ov aR:Value} {bR:List (Nm × Value)} {au:Nm→Option (Nat × Nat)} {ay:List Nat} {ai av ap ab:Option Addr} {ci cv cp cb:Nat}
  (h:Has w Own G bw W L) (hbw:Own bw) (D7 : ∀ x,Own x→¬ G x∧¬ Gm x) (hlow : ∀ x,Own x∨G x∨Gm x→x < lo) (hlo : lo≤w.heap.size) (hnew:W.M m.name=none) (dK:fI m)
  (hor:ng w Own G bw W L bp ov bR)
  (hc:ae (bw :: bp :: blk ov) w wS)
  (hbS:ag wS bw #[.map (some bp),aR] 40) (RJ:aZ wS bp (dB bR m.name (ptr b)))
  (Ll : wS.ownsRow 0 9 1 aR (W.order ++ [m.name]).length ((W.order ++ [m.name]).map str)) (hmv:dS w ov aR)
  (iX:ag wS b #[str m.name,.slice ai m.imports.length ci,.slice av m.vars.length cv,.slice ap m.procs.length cp,.slice ab m.body.len cb,.map (some bv)] 102)
  (hmod:gY wS Gm m (.agg #[str m.name,.slice ai m.imports.length ci,.slice av m.vars.length cv,.slice ap m.procs.length cp,.slice ab m.body.len cb]))
  (hva:kK wS lo bv m.vars au ay) (hlb : lo≤b∧lo≤bv)
  (ht : t≠b∧t≠bv∧t∉blk aR)
  (hO : ∀ x,Own x→Own' x) (hO2 : ∀ x,lo≤x→x < wS.heap.size→Own' x) :
  Has wS Own' (fun x=>G x∨Gm x) bw ⟨bT W.M m,lN W.vs m,W.order ++ [m.name]⟩ (L.more m Gm lo wS.heap.size t b au ay):=by
 have D8 : ∀ x,L.Fix x→x < lo:=fun x hx=>by
  rcases h.fix x hx with h1|h1
  ·exact hlow x (.inl h1)
  ·exact hlow x (.inr (.inl h1))
 have hs:=hc.size;obtain⟨h1,h2,h3,h4,h5,h6,h7⟩:=hor;have hp:=h3;have G6:L.Fix bw:=by rw [← h.lg];exact h.home.stat.own
 have Lm : ∀ x∈bw :: bp :: blk ov,L.Fix x∧Own x:=fun x hx=>by
  rcases List.mem_cons.1 hx with rfl|hx
  ·exact⟨G6,hbw⟩
  ·rcases List.mem_cons.1 hx with rfl|hx
   ·exact⟨h5,h6⟩
   ·exact h4 x hx
 have jg:=h.home.lay w.heap.size (Nat.le_refl _);have hal : ∀ x∈L.ay,¬ L.Fix x∧x < lo∧Own x:=fun x hx=>⟨(jg.ay hx).1,hlow x (.inl (h.ay x hx)),h.ay x hx⟩
 have RL:=iX.lt;have D9 : bv < wS.heap.size:=by obtain⟨es,hm,_⟩:=hva.map;exact hm.lt
 have G7 : ∀ x,(L.more m Gm lo wS.heap.size t b au ay).Fix x↔(L.Fix x∨Gm x∨(lo≤x∧x < wS.heap.size∧x∉ay∧x≠t)):=fun x=>Iff.rfl
 have abH : b∉ay:=fun hm=>by
  obtain⟨_,_,k,hk⟩:=hva.low hm
  unfold ag at hk iX
  rw [hk] at iX;simp at iX
  exact absurd iX.2 (by decide)
 have Lp : bv∉ay:=fun hm=>by
  obtain⟨_,_,k,hk⟩:=hva.low hm;obtain⟨es,⟨arr,clock,hmm,_⟩,_⟩:=hva.map
  unfold ag at hk
  rw [hk] at hmm;cases hmm
 have hold : ∀ q mq,W.M q=some mq→getM bR q=some (ptr (L.pb q))∧Own (L.pb q) ∧ ∃ fD,(Own fD∧L.Fix fD∧fD≠bp ∧ ∃ es,aZ wS fD es)∧oI wS (fun x=>L.Fix x∧(G x∨x=L.pb q∨x=fD)) mq (L.au q) (L.pb q):=fun q mq hq=>by
  have:=h7 q;rw [hq] at this;obtain⟨a1,a2,fD,⟨a3,a4,a6,es,a7⟩,a5⟩:=this;have nS : fD∉bw :: bp :: blk ov:=fun hm=>by
   obtain⟨arr,clock,hmm,_⟩:=a7;rcases List.mem_cons.1 hm with rfl|hm
   ·unfold ag at h1;rw [hmm] at h1;cases h1
   ·rcases List.mem_cons.1 hm with h|hm
    ·exact a6 h
    ·rcases h2.2 with⟨rfl,_⟩|⟨g,cap,cur,rfl,_,hg,_⟩
     ·cases hm
     ·simp [blk] at hm;subst hm;rw [hmm] at hg;cases hg
  refine⟨a1,a2,fD,⟨a3,a4,a6,es,a7.kept hc nS⟩,a5.kept hc (fun x hx hf=>?_)⟩;obtain⟨hx1,hx2⟩:=Lm x hx;rcases hf.2 with hf|rfl|rfl
  ·exact(D7 x hx2).1 hf
  ·obtain⟨_,_,ai,ci,av,cv,ap,cp,ab,cb,bv,es,h3,_⟩:=a5
   unfold ag at h3
   rcases List.mem_cons.1 hx with h|hm
   ·rw [h] at h3;unfold ag at h1;rw [h1] at h3;simp at h3
   ·rcases List.mem_cons.1 hm with h|hm
    ·obtain⟨arr,clock,hmm,_⟩:=hp
     rw [h,hmm] at h3;cases h3
    ·rcases h2.2 with⟨rfl,_⟩|⟨g,cap,cur,rfl,_,hg,_⟩
     ·cases hm
     ·simp [blk] at hm;rw [hm,hg] at h3;simp at h3
  ·exact nS hx
 have Ea : ∀ q,(L.more m Gm lo wS.heap.size t b au ay).M q=bT W.M m q:=fun q=>by rw [← h.M];rfl
 have hpn:oI wS (fun x=>Gm x∨x=b∨x=bv) m au b:=by
  obtain⟨es,hm,hes⟩:=hva.map;exact⟨.inr (.inl rfl),dK,ai,ci,av,cv,ap,cp,ab,cb,bv,es,iX,hmod.mono (fun x hx=>.inl hx),.inr (.inr rfl),hm,hes⟩
 have DK : (lo≤b∧b < wS.heap.size∧b∉ay∧b≠t):=⟨hlb.1,RL,abH,ht.1.symm⟩;have Lr : (lo≤bv∧bv < wS.heap.size∧bv∉ay∧bv≠t):=⟨hlb.2,D9,Lp,ht.2.1.symm⟩;have aii : bp < lo:=hlow _ (.inl h6);have hparts : ∀ q,match bT W.M m q with
   | none=>getM (dB bR m.name (ptr b)) q=none
   | some mq=>getM (dB bR m.name (ptr b)) q=some (ptr ((L.more m Gm lo wS.heap.size t b au ay).pb q))∧Own' ((L.more m Gm lo wS.heap.size t b au ay).pb q) ∧ ∃ fD,(Own' fD∧(L.more m Gm lo wS.heap.size t b au ay).Fix fD∧fD≠bp ∧ ∃ es,aZ wS fD es)∧oI wS (fun x=>(L.more m Gm lo wS.heap.size t b au ay).Fix x∧((G x∨Gm x)∨x=(L.more m Gm lo wS.heap.size t b au ay).pb q∨x=fD)) mq ((L.more m Gm lo wS.heap.size t b au ay).au q) ((L.more m Gm lo wS.heap.size t b au ay).pb q):=fun q=>by
  by_cases hqm : q=m.name
  ·subst hqm
   have e1 : bT W.M m m.name=some m:=by simp [bT]
   have e2 : (L.more m Gm lo wS.heap.size t b au ay).pb m.name=b:=by simp [Lay.more]
   have e3 : (L.more m Gm lo wS.heap.size t b au ay).au m.name=au:=by simp [Lay.more]
   rw [e1,e2,e3];refine⟨by rw [mP,if_pos rfl],hO2 b hlb.1 RL,bv,⟨hO2 bv hlb.2 D9,.inr (.inr Lr),by omega,by obtain⟨es,hm,_⟩:=hva.map;exact⟨es,hm⟩⟩,hpn.mono (fun x hx=>?_)⟩;rcases hx with hx|rfl|rfl
   ·exact⟨.inr (.inl hx),.inl (.inr hx)⟩
   ·exact⟨.inr (.inr DK),.inr (.inl rfl)⟩
   ·exact⟨.inr (.inr Lr),.inr (.inr rfl)⟩
  ·have e1 : bT W.M m q=W.M q:=by simp [bT,hqm]
   have e2 : (L.more m Gm lo wS.heap.size t b au ay).pb q=L.pb q:=by simp [Lay.more,hqm]
   have e3 : (L.more m Gm lo wS.heap.size t b au ay).au q=L.au q:=by simp [Lay.more,hqm]
   rw [e1,e2,e3];cases hq:W.M q with
   | none=>
    have:=h7 q;rw [hq] at this
    show getM _ q=none
    rw [mP,if_neg (Ne.symm hqm)];exact this
   | some mq=>
    obtain⟨a1,a2,fD,⟨a3,a4,a6,a7⟩,a5⟩:=hold q mq hq;exact⟨by rw [mP,if_neg (Ne.symm hqm)];exact a1,hO _ a2,fD,⟨hO _ a3,.inl a4,a6,a7⟩,a5.mono (fun x hx=>⟨.inl hx.1,by
     rcases hx.2 with h|h
     ·exact .inl (.inl h)
     ·exact .inr h⟩)⟩
 have aij : ∀ n,L.au m.name n=none:=fun n=>by
  cases hd:L.au m.name n with
  | none=>rfl
  | some x=>
   have:=jg.there (show L.au m.name n=some (x.1,x.2) from hd);rw [h.M,hnew] at this;cases this
 have G8 : ∀ q n x,(L.more m Gm lo wS.heap.size t b au ay).au q n=some x→(q=m.name∧au n=some x)∨(q≠m.name∧L.au q n=some x):=fun q n x hx=>by
  by_cases hqm : q=m.name
  ·exact .inl ⟨hqm,by simpa [Lay.more,hqm] using hx⟩
  ·exact .inr ⟨hqm,by simpa [Lay.more,hqm] using hx⟩
 have Ls : ∀ br,wS.heap.size≤br→CS { L.more m Gm lo wS.heap.size t b au ay with br:=br }:=fun br hbr=>by
  have hl:=h.home.lay br (by omega);refine⟨fun {q n a k q' n' k'} h1 h2=>?_,fun {q n a k} h1=>?_,fun {a} ha=>?_,fun {x} hx=>?_,fun {q n a k} h1=>?_⟩
  ·rcases G8 q n _ h1 with⟨e1,d1⟩|⟨e1,d1⟩ <;> rcases G8 q' n' _ h2 with⟨e2,d2⟩|⟨e2,d2⟩
   ·exact⟨by rw [e1,e2],hva.inj d1 d2⟩
   ·have:=(hal a (jg.arr d2).1).2.1;have:=(hva.low (hva.arr d1).1).1;omega
   ·have:=(hal a (jg.arr d1).1).2.1;have:=(hva.low (hva.arr d2).1).1;omega
   ·exact jg.inj d1 d2
  ·rcases G8 q n _ h1 with⟨_,d1⟩|⟨_,d1⟩
   ·obtain⟨h3,h4⟩:=hva.arr d1;exact⟨List.mem_append_right _ h3,h4⟩
   ·obtain⟨h3,h4⟩:=jg.arr d1;exact⟨List.mem_append_left _ h3,h4⟩
  ·rcases List.mem_append.1 ha with ha|ha
   ·obtain⟨h3,h4,h5'⟩:=hal a ha
    refine⟨fun hf=>?_,by show a < br;omega⟩;rcases (G7 a).1 hf with hf|hf|hf
    ·exact h3 hf
    ·exact(D7 a h5').2 hf
    ·omega
   ·obtain⟨h3,h4,_⟩:=hva.low ha
    refine⟨fun hf=>?_,by show a < br;omega⟩;rcases (G7 a).1 hf with hf|hf|hf
    ·have:=D8 a hf;omega
    ·have:=hlow a (.inr (.inr hf));omega
    ·exact hf.2.2.1 ha
  ·show x < br
   rcases (G7 x).1 hx with hf|hf|hf
   ·have:=D8 x hf;omega
   ·have:=hlow x (.inr (.inr hf));omega
   ·omega
  ·show (bT L.M m q).isSome
   rcases G8 q n _ h1 with⟨e1,_⟩|⟨e1,d1⟩
   ·simp [bT,e1]
   ·have:=jg.there d1
    simpa [bT,e1] using this
 have hZd : ∀ q n a k,L.au q n=some (a,k)→a∉bw :: bp :: blk ov:=fun q n a k hd hm=>(jg.ay (jg.arr hd).1).1 (Lm a hm).1
 have Lt:yL wS (L.more m Gm lo wS.heap.size t b au ay).au (lN W.vs m):=fun q n=>by
  by_cases hqm : q=m.name
  ·have e3 : (L.more m Gm lo wS.heap.size t b au ay).au q=au:=by simp [Lay.more,hqm]
   have e4 : lN W.vs m q n=jf m.vars n:=by simp [lN,hqm]
   rw [e3,e4];have:=hva.is n;cases hd : au n with
   | none=>rw [hd] at this;exact this
   | some x=>rw [hd] at this;exact⟨_,this.1,by simp [zeros],this.2⟩
  ·have e3 : (L.more m Gm lo wS.heap.size t b au ay).au q=L.au q:=by simp [Lay.more,hqm]
   have e4 : lN W.vs m q n=W.vs q n:=by simp [lN,hqm]
   rw [e3,e4];exact(h.home.dyn.kept hc hZd) q n
 have hownS : (L.more m Gm lo wS.heap.size t b au ay).Fix bw:=.inl G6;have abJ : ∀ g∈blk aR,(L.more m Gm lo wS.heap.size t b au ay).Fix g∧Own' g:=fun g hg=>by
  rcases hmv g hg with hm|hm
  ·exact⟨.inl (h4 g hm).1,hO g (h4 g hm).2⟩
  ·have RN : g < wS.heap.size:=by
    rcases Ll.2 with⟨rfl,_⟩|⟨g',cap,cur,rfl,_,hg',_⟩
    ·cases hg
    ·simp [blk] at hg;subst hg;exact(Array.getElem?_eq_some_iff.1 hg').1
   refine⟨.inr (.inr ⟨by omega,RN,fun ha=>?_,fun e=>ht.2.2 (by rw [← e];exact hg)⟩),hO2 g (by omega) RN⟩;obtain⟨_,_,k,hk⟩:=hva.low ha;rcases Ll.2 with⟨rfl,_⟩|⟨g',cap,cur,rfl,_,hg',_⟩
   ·cases hg
   ·simp [blk] at hg;subst hg;unfold ag at hk;rw [hk] at hg';simp [bO] at hg'
 refine⟨h.lg,by funext q;exact Ea q,fun x hx=>?_,fun x hx=>?_,⟨Ls,⟨by show (L.more m Gm lo wS.heap.size t b au ay).Fix L.bw;rw [h.lg];exact hownS,bp,_,aR,by show ag wS L.bw _ _;rw [h.lg];exact hbS,.inl h5,RJ,fun q=>?_⟩,Lt,fun {a} ha=>?_⟩,⟨bp,aR,_,hbS,Ll,RJ,abJ,.inl h5,hO _ h6,hparts⟩,fun q q' h1 h2 he=>?_⟩
 ·rcases (G7 x).1 hx with hf|hf|hf
  ·rcases h.fix x hf with h1|h1
   ·exact .inl (hO x h1)
   ·exact .inr (.inl h1)
  ·exact .inr (.inr hf)
  ·exact .inl (hO2 x hf.1 hf.2.1)
 ·rcases List.mem_append.1 hx with hx|hx
  ·exact hO x (h.ay x hx)
  ·obtain⟨h3,h4,_⟩:=hva.low hx
   exact hO2 x h3 h4
 ·have:=hparts q
  rw [← Ea q] at this;cases hq : (L.more m Gm lo wS.heap.size t b au ay).M q with
  | none=>rw [hq] at this;exact this
  | some mq=>
   rw [hq] at this;obtain⟨a1,_,fD,_,a5⟩:=this;exact⟨a1,a5.mono (fun x hx=>hx.1)⟩
 ·rcases List.mem_append.1 ha with ha|ha
  ·obtain⟨cs,f,hh⟩:=h.home.oJ ha
   exact⟨cs,f,by rw [hc.block _ (Array.getElem?_eq_some_iff.1 hh).1 (fun hm=>(hal a ha).1 (Lm a hm).1)];exact hh⟩
  ·obtain⟨_,_,k,hk⟩:=hva.low ha
   exact⟨_,_,hk⟩
 ·have hb1 : ∀ q,(W.M q).isSome→L.pb q < lo:=fun q hq=>by
   obtain⟨mq,eB⟩:=Option.isSome_iff_exists.1 hq;exact hlow _ (.inl (hold q mq eB).2.1)
  by_cases e1 : q=m.name <;> by_cases e2 : q'=m.name
  ·rw [e1,e2]
  ·have h2' : (W.M q').isSome:=by simpa [bT,e2] using h2
   have:=hb1 q' h2';simp [Lay.more,e1,e2] at he
   omega
  ·have h1' : (W.M q).isSome:=by simpa [bT,e1] using h1
   have:=hb1 q h1';simp [Lay.more,e1,e2] at he
   omega
  ·exact h.inj q q' (by simpa [bT,e1] using h1) (by simpa [bT,e2] using h2) (by simpa [Lay.more,e1,e2] using he)
end Go.Mq.Run
namespace Go.Mq.Run
open Go Go.RowKit Go.Mq Go.Mq.Tree
open Go.Proofs.YtechofppmnnomaaGreatDoor (kK)
def tZ:List Oper:=[
 { dst:=some 50,op:=Op.load 32 (Operand.tmp 4),type:=32,pos := "run.go:97",after:=#[],guard:=none },
 { dst:=some 51,op:=Op.load 32 (Operand.tmp 4),type:=32,pos := "run.go:97",after:=#[],guard:=none },
 { dst:=some 52,op:=Op.call { callee:=Callee.value (Operand.func 39),args:=#[Operand.tmp 51],argTypes:=#[32] },type:=99,pos := "run.go:97",after:=#[{ on:=1,ground:=Ground.data }],guard:=none },
 { dst:=some 53,op:=Op.build 102 #[(0,Operand.tmp 50),(1,Operand.tmp 52)],type:=102,pos := "run.go:97",after:=#[{ on:=0,ground:=Ground.data },{ on:=2,ground:=Ground.data }],guard:=none },
 { dst:=some 54,op:=Op.box 102 (Operand.tmp 53),type:=94,pos := "run.go:97",after:=#[{ on:=3,ground:=Ground.data }],guard:=none },
 { dst:=some 11,op:=Op.alloc 94,type:=0,pos := "run.go:97",after:=#[],guard:=none },
 { dst:=none,op:=Op.store 94 (Operand.tmp 11) (Operand.tmp 54),type:=0,pos := "run.go:97",after:=#[{ on:=5,ground:=Ground.data },{ on:=4,ground:=Ground.data },{ on:=2,ground:=Ground.chain },{ on:=0,ground:=Ground.phase },{ on:=1,ground:=Ground.phase },{ on:=2,ground:=Ground.phase },{ on:=3,ground:=Ground.phase },{ on:=4,ground:=Ground.phase },{ on:=5,ground:=Ground.phase }],guard:=none }]
def jh (a0:Act) (x50 x51 x52 x53 x54 x11:Value):Act:={ tmps:=(((((a0.tmps.setIfInBounds 50 x50).setIfInBounds 51 x51).setIfInBounds 52 x52).setIfInBounds 53 x53).setIfInBounds 54 x54).setIfInBounds 11 x11,defers:=a0.defers }
theorem Bi (a0:Act) (x50 x51 x52 x53 x54 x11:Value) (h : 54 < a0.tmps.size) :
  (jh a0 x50 x51 x52 x53 x54 x11).eval (.tmp 51)=x51∧(jh a0 x50 x51 x52 x53 x54 x11).eval (.tmp 50)=x50∧(jh a0 x50 x51 x52 x53 x54 x11).eval (.tmp 52)=x52∧(jh a0 x50 x51 x52 x53 x54 x11).eval (.tmp 53)=x53∧(jh a0 x50 x51 x52 x53 x54 x11).eval (.tmp 54)=x54∧(jh a0 x50 x51 x52 x53 x54 x11).eval (.tmp 11)=x11∧(jh a0 x50 x51 x52 x53 x54 x11).eval (.tmp 4)=a0.eval (.tmp 4):=by
 have k0 : 50 < a0.tmps.size:=by omega
 have k1 : 51 < a0.tmps.size:=by omega
 have k2 : 52 < a0.tmps.size:=by omega
 have k3 : 53 < a0.tmps.size:=by omega
 have k4 : 11 < a0.tmps.size:=by omega
 refine⟨?_,?_,?_,?_,?_,?_,?_⟩ <;> simp [jh,Act.eval,Array.getElem?_setIfInBounds,h,k0,k1,k2,k3,k4]
theorem RO {t t':Array Value} {d:List Deferred} (h : t=t') : ({ tmps:=t,defers:=d } : Act) = { tmps:=t',defers:=d }:=by rw [h]
theorem Bj (a0:Act) (x50 x51 x52 x53 x54 x11 y:Value) (h : 54 < a0.tmps.size) :
  (jh a0 x50 x51 x52 x53 x54 x11).put (some 50) y=jh a0 y x51 x52 x53 x54 x11∧(jh a0 x50 x51 x52 x53 x54 x11).put (some 51) y=jh a0 x50 y x52 x53 x54 x11∧(jh a0 x50 x51 x52 x53 x54 x11).put (some 52) y=jh a0 x50 x51 y x53 x54 x11 ∧
  (jh a0 x50 x51 x52 x53 x54 x11).put (some 53) y=jh a0 x50 x51 x52 y x54 x11∧(jh a0 x50 x51 x52 x53 x54 x11).put (some 54) y=jh a0 x50 x51 x52 x53 y x11∧(jh a0 x50 x51 x52 x53 x54 x11).put (some 11) y=jh a0 x50 x51 x52 x53 x54 y:=by
 refine⟨?_,?_,?_,?_,?_,?_⟩ <;>
 ·simp only [jh,Act.put]
  refine RO (Array.ext_getElem? ?_);intro k;by_cases e0 : 50=k
  ·subst e0;simp [Array.getElem?_setIfInBounds]
  by_cases e1 : 51=k
  ·subst e1;simp [Array.getElem?_setIfInBounds]
  by_cases e2 : 52=k
  ·subst e2;simp [Array.getElem?_setIfInBounds]
  by_cases e3 : 53=k
  ·subst e3;simp [Array.getElem?_setIfInBounds]
  by_cases e4 : 54=k
  ·subst e4;simp [Array.getElem?_setIfInBounds]
  by_cases e5 : 11=k
  ·subst e5;simp [Array.getElem?_setIfInBounds]
  simp [Array.getElem?_setIfInBounds,e0,e1,e2,e3,e4,e5]
end Go.Mq.Run
namespace Go.Proofs.YtechofppmnnomaaGreatDoor
open Go Go.RowKit Go.Mq Go.Mq.Tree Go.Mq.Sym Go.Mq.Run
set_option maxRecDepth 100000
set_option maxHeartbeats 4000000
def oW (m:Mod) (vm:Value) (cs:List Value) (a0:Act) (w0:World) (D:Nat→Prop) (a:Act) (w:World):Prop:=
 ∃ (x50 x51 x52 x53 x54 x11:Value) (bv:Nat) (au:Nm→Option (Nat × Nat)) (ay:List Nat) (bp bt:Nat),a=jh a0 x50 x51 x52 x53 x54 x11∧ae [] w0 w∧(D 0→x50=vm)∧(D 1→x51=vm) ∧
  (D 2→x52 = .map (some bv)∧w0.heap.size≤bv∧kK w w0.heap.size bv m.vars au ay)∧(D 3→x53 = .agg (cs ++ [Value.map (some bv)]).toArray) ∧
  (D 4→x54=ptr bp∧w0.heap.size≤bp∧ag w bp (cs ++ [Value.map (some bv)]).toArray 102) ∧
  (D 5→x11=ptr bt∧w0.heap.size≤bt ∧ ∃ u,ag w bt #[u] 94∧(D 6→u=ptr bp))∧(D 3→D 2)∧(D 4→D 3)∧(D 6→D 4∧D 5)
theorem RP {m:Mod} {vm:Value} {cs:List Value} {a0:Act} {w0:World} {D:Nat→Prop} {a:Act} {w:World} (h:oW m vm cs a0 w0 D a w) (hs : 54 < a0.tmps.size):oW m vm cs a0 w0 (fun j=>D j∨j=0) (a.put (some 50) vm) w∧oW m vm cs a0 w0 (fun j=>D j∨j=1) (a.put (some 51) vm) w:=by
 obtain⟨x50,x51,x52,x53,x54,x11,bv,au,ay,bp,bt,rfl,hc,h0,h1,h2,h3,h4,h5,h6,h7,h8⟩:=h;rw [(Bj a0 x50 x51 x52 x53 x54 x11 vm hs).1,(Bj a0 x50 x51 x52 x53 x54 x11 vm hs).2.1]
 constructor
 ·refine⟨vm,x51,x52,x53,x54,x11,bv,au,ay,bp,bt,rfl,hc,fun _=>rfl,fun h=>h1 (by simpa using h),fun h=>h2 (by simpa using h),fun h=>h3 (by simpa using h),fun h=>h4 (by simpa using h),fun h=>?_,fun h=>by simpa using h6 (by simpa using h),fun h=>by simpa using h7 (by simpa using h),fun h=>by simpa using h8 (by simpa using h)⟩
  obtain⟨g1,g2,u,g3,g4⟩:=h5 (by simpa using h);exact⟨g1,g2,u,g3,fun h=>g4 (by simpa using h)⟩
 ·refine⟨x50,vm,x52,x53,x54,x11,bv,au,ay,bp,bt,rfl,hc,fun h=>h0 (by simpa using h),fun _=>rfl,fun h=>h2 (by simpa using h),fun h=>h3 (by simpa using h),fun h=>h4 (by simpa using h),fun h=>?_,fun h=>by simpa using h6 (by simpa using h),fun h=>by simpa using h7 (by simpa using h),fun h=>by simpa using h8 (by simpa using h)⟩
  obtain⟨g1,g2,u,g3,g4⟩:=h5 (by simpa using h);exact⟨g1,g2,u,g3,fun h=>g4 (by simpa using h)⟩
theorem abK {w w':World} {lo b bt:Nat} {l:List bJ} {au:Nm→Option (Nat × Nat)} {ay:List Nat} {cs:Array Value} {t:TypeId} (h:kK w lo b l au ay) (hb:ag w bt cs t) (ht : t≠bO) (hc:ae [bt] w w'):kK w' lo b l au ay:=by
 obtain⟨es,h1,h2⟩:=h.map;have hne : ∀ {x:Nat} {us:Array Value},ag w x us bO→x∉[bt]:=fun {x us} hx hm=>by
  simp at hm
  subst hm
  unfold ag at hx hb
  rw [hb] at hx;cases hx
  exact ht rfl
 have gy : b∉[bt]:=fun hm=>by
  simp at hm
  subst hm;obtain⟨arr,clock,hmm,_⟩:=h1
  unfold ag at hb
  rw [hmm] at hb;cases hb
 refine⟨⟨es,h1.kept hc gy,h2⟩,h.inj,h.arr,fun ha=>?_,fun n=>?_⟩
 ·obtain⟨h3,h4,k,h5⟩:=h.low ha
  exact⟨h3,by have:=hc.size;omega,k,h5.kept hc (hne h5)⟩
 ·have:=h.is n
  cases hd : au n with
  | none=>rw [hd] at this;exact this
  | some x=>
   rw [hd] at this;exact⟨this.1,this.2.kept hc (hne this.2)⟩
theorem abL {m:Mod} {vm:Value} {cs:List Value} {a0:Act} {w0:World} {D:Nat→Prop} {a:Act} {w w':World} {fD:Nat} {RS:Nm→Option (Nat × Nat)} {RU:List Nat} (h:oW m vm cs a0 w0 D a w) (hs : 54 < a0.tmps.size) (hD : ¬ D 2) (hc':ae [] w w') (hbv : w0.heap.size≤fD) (hva:kK w' w0.heap.size fD m.vars RS RU):oW m vm cs a0 w0 (fun j=>D j∨j=2) (a.put (some 52) (.map (some fD))) w':=by
 obtain⟨x50,x51,x52,x53,x54,x11,bv,au,ay,bp,bt,rfl,hc,h0,h1,h2,h3,h4,h5,h6,h7,h8⟩:=h;rw [(Bj a0 x50 x51 x52 x53 x54 x11 _ hs).2.2.1];refine⟨x50,x51,_,x53,x54,x11,fD,RS,RU,bp,bt,rfl,hc.then hc',fun h=>h0 (by simpa using h),fun h=>h1 (by simpa using h),fun _=>⟨rfl,hbv,hva⟩,fun h=>absurd (h6 (by simpa using h)) hD,fun h=>absurd (h6 (h7 (by simpa using h))) hD,fun h=>?_,fun h=>.inr rfl,fun h=>by simpa using h7 (by simpa using h),fun h=>by simpa using h8 (by simpa using h)⟩;obtain⟨g1,g2,u,g3,g4⟩:=h5 (by simpa using h);exact⟨g1,g2,u,g3.kept hc' (by simp),fun h=>g4 (by simpa using h)⟩
theorem abM {m:Mod} {vm:Value} {cs:List Value} {a0:Act} {w0:World} {D:Nat→Prop} {a:Act} {w:World} (h:oW m vm cs a0 w0 D a w) (hs : 54 < a0.tmps.size) (d0:D 0) (d2:D 2):oW m vm cs a0 w0 (fun j=>D j∨j=3) (a.put (some 53) (.agg (cs ++ [a.eval (.tmp 52)]).toArray)) w∧a.eval (.tmp 50)=vm ∧ ∃ bv:Nat,a.eval (.tmp 52) = .map (some bv):=by
 obtain⟨x50,x51,x52,x53,x54,x11,bv,au,ay,bp,bt,rfl,hc,h0,h1,h2,h3,h4,h5,h6,h7,h8⟩:=h;have hq:=Bi a0 x50 x51 x52 x53 x54 x11 hs;rw [hq.2.1,hq.2.2.1];rw [(Bj a0 x50 x51 x52 x53 x54 x11 _ hs).2.2.2.1];refine⟨⟨x50,x51,x52,_,x54,x11,bv,au,ay,bp,bt,rfl,hc,fun h=>h0 (by simpa using h),fun h=>h1 (by simpa using h),fun h=>h2 (by simpa using h),fun _=>by rw [(h2 d2).1],fun h=>h4 (by simpa using h),fun h=>?_,fun _=>.inl d2,fun h=>.inr rfl,fun h=>by simpa using h8 (by simpa using h)⟩,h0 d0,bv,(h2 d2).1⟩;obtain⟨g1,g2,u,g3,g4⟩:=h5 (by simpa using h);exact⟨g1,g2,u,g3,fun h=>g4 (by simpa using h)⟩
theorem abN {m:Mod} {vm:Value} {cs:List Value} {a0:Act} {w0:World} {D:Nat→Prop} {a:Act} {w:World} (h:oW m vm cs a0 w0 D a w) (hs : 54 < a0.tmps.size) (d3:D 3) (hD : ¬ D 4) : ∃ bv:Nat,a.eval (.tmp 53) = .agg (cs ++ [Value.map (some bv)]).toArray∧oW m vm cs a0 w0 (fun j=>D j∨j=4) (a.put (some 54) (ptr w.heap.size)) (w.alloc (.cells (cs ++ [Value.map (some bv)]).toArray 102)):=by
 obtain⟨x50,x51,x52,x53,x54,x11,bv,au,ay,bp,bt,rfl,hc,h0,h1,h2,h3,h4,h5,h6,h7,h8⟩:=h;refine⟨bv,by rw [(Bi a0 x50 x51 x52 x53 x54 x11 hs).2.2.2.1,h3 d3],?_⟩;rw [(Bj a0 x50 x51 x52 x53 x54 x11 _ hs).2.2.2.2.1];have aO:ae [] w (w.alloc (.cells (cs ++ [Value.map (some bv)]).toArray 102)):=(ae.refl _ _).alloc _;refine⟨x50,x51,x52,x53,_,x11,bv,au,ay,w.heap.size,bt,rfl,hc.then aO,fun h=>h0 (by simpa using h),fun h=>h1 (by simpa using h),fun h=>?_,fun h=>h3 (by simpa using h),fun _=>⟨rfl,hc.size,ag.new _ _ _⟩,fun h=>?_,fun h=>by simpa using h6 (by simpa using h),fun h=>.inl d3,fun h=>?_⟩
 ·obtain⟨g1,g2,g3⟩:=h2 (by simpa using h)
  exact⟨g1,g2,g3.Ry aO⟩
 ·obtain⟨g1,g2,u,g3,g4⟩:=h5 (by simpa using h)
  exact⟨g1,g2,u,g3.kept aO (by simp),fun h=>absurd (h8 (by simpa using h)).1 hD⟩
 ·exact absurd (h8 (by simpa using h)).1 hD
theorem abO {m:Mod} {vm:Value} {cs:List Value} {a0:Act} {w0:World} {D:Nat→Prop} {a:Act} {w:World} (h:oW m vm cs a0 w0 D a w) (hs : 54 < a0.tmps.size) (hD : ¬ D 5):oW m vm cs a0 w0 (fun j=>D j∨j=5) (a.put (some 11) (ptr w.heap.size)) (w.alloc (.cells #[aJ] 94)):=by
 obtain⟨x50,x51,x52,x53,x54,x11,bv,au,ay,bp,bt,rfl,hc,h0,h1,h2,h3,h4,h5,h6,h7,h8⟩:=h;rw [(Bj a0 x50 x51 x52 x53 x54 x11 _ hs).2.2.2.2.2];have aO:ae [] w (w.alloc (.cells #[aJ] 94)):=(ae.refl _ _).alloc _;refine⟨x50,x51,x52,x53,x54,_,bv,au,ay,bp,w.heap.size,rfl,hc.then aO,fun h=>h0 (by simpa using h),fun h=>h1 (by simpa using h),fun h=>?_,fun h=>h3 (by simpa using h),fun h=>?_,fun h=>⟨rfl,hc.size,aJ,ag.new _ _ _,fun h=>absurd (h8 (by simpa using h)).2 hD⟩,fun h=>by simpa using h6 (by simpa using h),fun h=>by simpa using h7 (by simpa using h),fun h=>absurd (h8 (by simpa using h)).2 hD⟩
 ·obtain⟨g1,g2,g3⟩:=h2 (by simpa using h)
  exact⟨g1,g2,g3.Ry aO⟩
 ·obtain⟨g1,g2,g3⟩:=h4 (by simpa using h)
  exact⟨g1,g2,g3.kept aO (by simp)⟩
theorem abP {m:Mod} {vm:Value} {cs:List Value} {a0:Act} {w0:World} {D:Nat→Prop} {a:Act} {w:World} (h:oW m vm cs a0 w0 D a w) (hs : 54 < a0.tmps.size) (d4:D 4) (d5:D 5) : ∃ (bt bp:Nat) (u:Value),a.eval (.tmp 11)=ptr bt∧a.eval (.tmp 54)=ptr bp∧ag w bt #[u] 94∧oW m vm cs a0 w0 (fun j=>D j∨j=6) (a.put none undef) (w.setCell ⟨bt,0,none⟩ (ptr bp)):=by
 obtain⟨x50,x51,x52,x53,x54,x11,bv,au,ay,bp,bt,rfl,hc,h0,h1,h2,h3,h4,h5,h6,h7,h8⟩:=h;obtain⟨g1,g2,u,g3,g4⟩:=h5 d5;obtain⟨k1,k2,k3⟩:=h4 d4;have hset:ae [bt] w (w.setCell ⟨bt,0,none⟩ (ptr bp)):=ae.set1 _ _ _ _;refine⟨bt,bp,u,by rw [(Bi a0 x50 x51 x52 x53 x54 x11 hs).2.2.2.2.2.1,g1],by rw [(Bi a0 x50 x51 x52 x53 x54 x11 hs).2.2.2.2.1,k1],g3,?_⟩;refine⟨x50,x51,x52,x53,x54,x11,bv,au,ay,bp,bt,rfl,hc.trans hset (fun x hx=>.inr (by simp at hx;omega)),fun h=>h0 (by simpa using h),fun h=>h1 (by simpa using h),fun h=>?_,fun h=>h3 (by simpa using h),fun h=>⟨k1,k2,k3.kept hset (fun hm=>?_)⟩,fun h=>⟨g1,g2,ptr bp,by simpa using g3.set 0 (ptr bp),fun _=>rfl⟩,fun h=>by simpa using h6 (by simpa using h),fun h=>by simpa using h7 (by simpa using h),fun h=>⟨.inl d4,.inl d5⟩⟩
 ·obtain⟨q1,q2,q3⟩:=h2 (by simpa using h)
  exact⟨q1,q2,abK q3 g3 (by decide) hset⟩
 ·simp at hm
  subst hm
  unfold ag at k3 g3
  rw [g3] at k3;simp at k3
section
variable {a:Act} {w:World} {K:Act→World→Prop} {Q:Exit→Act→World→Prop} {dst:Option Tmp} {ty:TypeId} {pos:String} {af:Array Edge} {gd:Option (Nat × Bool)}
theorem RV {bm:Nat} {x:Operand} {c0 c1 c2 c3 c4:Value} (e4 : a.eval x=ptr bm) (hb:ag w bm #[c0,c1,c2,c3,c4] 32) (h:K (a.put dst (.agg #[c0,c1,c2,c3,c4])) w):Oper.wp Tryz.prog ⟨dst,.load 32 x,ty,pos,af,gd⟩ a w K Q:=by
 have q0:=hb.cell 0 _ rfl;have q1:=hb.cell 1 _ rfl;have q2:=hb.cell 2 _ rfl;have q3:=hb.cell 3 _ rfl;have q4:=hb.cell 4 _ rfl;clear hb
 unfold Oper.wp
 simp only [execOp,e4];simp [Instr.loadAt,go_sem,q0,q1,q2,q3,q4]
 exact h
theorem abQ {v:Value} {f:FuncId} {ni:Array TypeId} (hF : ∀ (args:Array Value) (w:World),(callFunc f args).run Tryz.prog w = .ok (.enter f args) w) (e1 : a.eval (.tmp 51)=v) {R:Ending→World→Prop} (hc:Calls Tryz.prog f #[v] w R) (hR : ∀ e w',R e w' → ∃ u,e = .returned u∧K (a.put dst u) w'):Oper.wp Tryz.prog ⟨dst,.call { callee:=.value (.func f),args:=#[.tmp 51],argTypes:=ni },ty,pos,af,gd⟩ a w K Q:=by
 have e2:=e1;simp only [Act.eval] at e2
 unfold Oper.wp
 simp only [execOp,resolve,invoke];simp [e2,hF,go_sem]
 show Calls _ _ _ _ _
 refine hc.mono ?_;rintro e w5 he;obtain⟨u,rfl,hk⟩:=hR e w5 he;exact hk
theorem abR {c0 c1 c2 c3 c4:Value} {ob:Option Nat} (e1 : a.eval (.tmp 50) = .agg #[c0,c1,c2,c3,c4]) (e2 : a.eval (.tmp 52) = .map ob) (h:K (a.put dst (.agg #[c0,c1,c2,c3,c4,.map ob])) w):Oper.wp Tryz.prog ⟨dst,.build 102 #[(0,.tmp 50),(1,.tmp 52)],ty,pos,af,gd⟩ a w K Q:=by
 unfold Oper.wp
 simp only [execOp,List.map_toArray,List.map_cons,List.map_nil,e1,e2];simp [go_sem]
 exact h
theorem abS {c0 c1 c2 c3 c4 c5:Value} (e1 : a.eval (.tmp 53) = .agg #[c0,c1,c2,c3,c4,c5]) (h:K (a.put dst (ptr w.heap.size)) (w.alloc (.cells #[c0,c1,c2,c3,c4,c5] 102))):Oper.wp Tryz.prog ⟨dst,.box 102 (.tmp 53),ty,pos,af,gd⟩ a w K Q:=by
 have e3:=e1;simp only [Act.eval] at e3
 unfold Oper.wp
 simp only [execOp];simp [go_sem,e3]
 exact h
theorem abT (h:K (a.put dst (ptr w.heap.size)) (w.alloc (.cells #[aJ] 94))):Oper.wp Tryz.prog ⟨dst,.alloc 94,ty,pos,af,gd⟩ a w K Q:=by
 unfold Oper.wp
 simp only [execOp];simp [go_sem]
 exact h
theorem abU {bt bp:Nat} {u:Value} (e1 : a.eval (.tmp 11)=ptr bt) (e2 : a.eval (.tmp 54)=ptr bp) (hb:ag w bt #[u] 94) (h:K (a.put dst undef) (w.setCell ⟨bt,0,none⟩ (ptr bp))):Oper.wp Tryz.prog ⟨dst,.store 94 (.tmp 11) (.tmp 54),ty,pos,af,gd⟩ a w K Q:=by
 have q0:=hb.cell 0 _ rfl;have f0:=hb.frozen 0;clear hb
 unfold Oper.wp
 simp only [execOp,e1,e2];simp [Instr.storeAt,go_sem,q0,f0]
 exact h
end
theorem abV {m:Mod} {bm:Nat} {ai av ap ab:Option Addr} {ci cv cp cb:Nat} {a0:Act} {w:World} {Q:Exit→Act→World→Prop} (hs : 54 < a0.tmps.size) (h4 : a0.eval (.tmp 4)=ptr bm)
  (hu : a0.tmps[50]?=some undef∧a0.tmps[51]?=some undef∧a0.tmps[52]?=some undef∧a0.tmps[53]?=some undef∧a0.tmps[54]?=some undef∧a0.tmps[11]?=some undef)
  (hb:ag w.drew bm #[str m.name,.slice ai m.imports.length ci,.slice av m.vars.length cv,.slice ap m.procs.length cp,.slice ab m.body.len cb] 32)
  (hst : ∀ wq,ae [] w.drew wq→Calls Tryz.prog 39 #[.agg #[str m.name,.slice ai m.imports.length ci,.slice av m.vars.length cv,.slice ap m.procs.length cp,.slice ab m.body.len cb]] wq (fun e w5=>∃ bv au ay,e = .returned (.map (some bv))∧w.drew.heap.size≤bv∧kK w5 w.drew.heap.size bv m.vars au ay∧ae [] wq w5))
  (hQ : ∀ (bv:Nat) (au:Nm→Option (Nat × Nat)) (ay:List Nat) (bp bt:Nat) (w':World),w.drew.heap.size≤bp∧w.drew.heap.size≤bt∧w.drew.heap.size≤bv→kK w' w.drew.heap.size bv m.vars au ay→ae [] w.drew w'→ag w' bt #[ptr bp] 94 →
   ag w' bp #[str m.name,.slice ai m.imports.length ci,.slice av m.vars.length cv,.slice ap m.procs.length cp,.slice ab m.body.len cb,.map (some bv)] 102 →
   Q .normal (jh a0 (.agg #[str m.name,.slice ai m.imports.length ci,.slice av m.vars.length cv,.slice ap m.procs.length cp,.slice ab m.body.len cb]) (.agg #[str m.name,.slice ai m.imports.length ci,.slice av m.vars.length cv,.slice ap m.procs.length cp,.slice ab m.body.len cb]) (.map (some bv)) (.agg #[str m.name,.slice ai m.imports.length ci,.slice av m.vars.length cv,.slice ap m.procs.length cp,.slice ab m.body.len cb,.map (some bv)]) (ptr bp) (ptr bt)) w') :
  (Code.region 11 tZ.toArray true).wp Tryz.prog Q a0 w:=by
 refine Ko (oW m (.agg #[str m.name,.slice ai m.imports.length ci,.slice av m.vars.length cv,.slice ap m.procs.length cp,.slice ab m.body.len cb]) [str m.name,.slice ai m.imports.length ci,.slice av m.vars.length cv,.slice ap m.procs.length cp,.slice ab m.body.len cb] a0 w.drew) rfl (by kernel_rfl) ?_ ?_ ?_
 ·refine⟨undef,undef,undef,undef,undef,undef,0,fun _=>none,[],0,0,?_,ae.refl _ _,(fun h=>h.elim),(fun h=>h.elim),(fun h=>h.elim),(fun h=>h.elim),(fun h=>h.elim),(fun h=>h.elim),(fun h=>h.elim),(fun h=>h.elim),(fun h=>h.elim)⟩
  obtain⟨t,d⟩:=a0;simp only at hu;obtain⟨u0,u1,u2,u3,u4,u5⟩:=hu;refine RO (Array.ext_getElem? ?_);intro k;by_cases e0 : 50=k
  ·subst e0;simp [Array.getElem?_setIfInBounds,u0];simp at hs;omega
  by_cases e1 : 51=k
  ·subst e1;simp [Array.getElem?_setIfInBounds,u1];simp at hs;omega
  by_cases e2 : 52=k
  ·subst e2;simp [Array.getElem?_setIfInBounds,u2];simp at hs;omega
  by_cases e3 : 53=k
  ·subst e3;simp [Array.getElem?_setIfInBounds,u3];simp at hs;omega
  by_cases e4 : 54=k
  ·subst e4;simp [Array.getElem?_setIfInBounds,u4];simp at hs;omega
  by_cases e5 : 11=k
  ·subst e5;simp [Array.getElem?_setIfInBounds,u5];simp at hs;omega
  simp [Array.getElem?_setIfInBounds,e0,e1,e2,e3,e4,e5]
 ·intro D a w' hD hI
  obtain⟨x50,x51,x52,x53,x54,x11,bv,au,ay,bp',bt,rfl,hcI,h0,h1,h2,h3,h4',h5,_,_,_⟩:=hI;obtain rfl:=h0 (hD 0 (by simp [tZ]));obtain rfl:=h1 (hD 1 (by simp [tZ]));obtain⟨rfl,hbv,hva⟩:=h2 (hD 2 (by simp [tZ]));obtain rfl:=h3 (hD 3 (by simp [tZ]));obtain⟨rfl,hbp,hbP⟩:=h4' (hD 4 (by simp [tZ]));obtain⟨rfl,hbt,u,xH,hu'⟩:=h5 (hD 5 (by simp [tZ]));obtain rfl:=hu' (hD 6 (by simp [tZ]));exact hQ bv au ay bp' bt w' ⟨hbp,hbt,hbv⟩ hva hcI xH (by simpa using hbP)
 ·intro D a w' i o ho hnD hw hI
  have hi : i < 7:=by have:=(List.getElem?_eq_some_iff.1 ho).1;simpa [tZ] using this
  have e4 : a.eval (.tmp 4)=ptr bm:=by
   obtain⟨x50,x51,x52,x53,x54,x11,bv,au,ay,bp',bt,rfl,_⟩:=hI;rw [(Bi a0 x50 x51 x52 x53 x54 x11 hs).2.2.2.2.2.2,h4]
  have hcw:ae [] w.drew w':=by
   obtain⟨x50,x51,x52,x53,x54,x11,bv,au,ay,bp',bt,_,hc,_⟩:=hI;exact hc
  have hbw:=hb.kept hcw (by simp);obtain rfl|rfl|rfl|rfl|rfl|rfl|rfl : i=0∨i=1∨i=2∨i=3∨i=4∨i=5∨i=6:=by omega
  all_goals
   refine abX (o:=o) (by rw [List.getElem?_toArray];exact ho) ?_ ?_
   all_goals simp only [tZ,List.getElem?_cons_zero,List.getElem?_cons_succ,Option.some.injEq] at ho
   all_goals subst ho
   ·rfl
  ·exact RV e4 hbw (RP hI hs).1
  ·exact RV e4 hbw (RP hI hs).2
  ·have d1:D 1:=hw ⟨1,.data⟩ (by simp) rfl
   have e51 : a.eval (.tmp 51) = .agg #[str m.name,.slice ai m.imports.length ci,.slice av m.vars.length cv,.slice ap m.procs.length cp,.slice ab m.body.len cb]:=by
    obtain⟨x50,x51,x52,x53,x54,x11,bv,au,ay,bp',bt,rfl,_,_,h1,_⟩:=hI;rw [(Bi a0 x50 x51 x52 x53 x54 x11 hs).1,h1 d1]
   refine abQ (fun _ _=>rfl) e51 (hst w' hcw) ?_;rintro e w5 ⟨bv,au,ay,rfl,hbv,hva,bC⟩;exact⟨_,rfl,abL hI hs hnD bC hbv hva⟩
  ·obtain⟨hp,e50,bv,e52⟩:=abM hI hs (hw ⟨0,.data⟩ (by simp) rfl) (hw ⟨2,.data⟩ (by simp) rfl)
   rw [e52] at hp;exact abR e50 e52 hp
  ·obtain⟨bv,e53,hp⟩:=abN hI hs (hw ⟨3,.data⟩ (by simp) rfl) hnD
   exact abS e53 hp
  ·exact abT (abO hI hs hnD)
  ·obtain⟨bt,bp,u,e11,e54,hbt,hp⟩:=abP hI hs (hw ⟨4,.data⟩ (by simp) rfl) (hw ⟨5,.data⟩ (by simp) rfl)
   exact abU e11 e54 hbt hp
end Go.Proofs.YtechofppmnnomaaGreatDoor
namespace Go.Mq.Run
open Go Go.RowKit Go.Mq Go.Mq.Tree Go.Mq.Sym
open Go.Mq.fo (aZ getM dB jm jV mQ jo)
structure Lu (w:World) (Own G:Nat→Prop) (bw:Nat) (W:Wd) (pv:Option Nat) (oa:Option Addr) (oc:Nat):Prop where
 blk:ag w bw #[.map pv,.slice oa W.order.length oc] 40
 at_ : (pv=none∧W=Wd.zero∧oa=none∧oc=0) ∨ ∃ bp L bR,pv=some bp∧Has w Own G bw W L∧ng w Own G bw W L bp (.slice oa W.order.length oc) bR
theorem dZ.front {w:World} {Own G:Nat→Prop} {bw:Nat} {W:Wd} (h:dZ w Own G bw W) : ∃ pv oa oc,Lu w Own G bw W pv oa oc:=by
 rcases h.at_ with⟨rfl,h2⟩|⟨L,h1⟩
 ·exact⟨none,none,0,h2,.inl ⟨rfl,rfl,rfl,rfl⟩⟩
 ·obtain⟨bp,ov,bR,ho⟩:=h1.order
  obtain⟨oa,oc,rfl⟩:=gu ho.2.1;exact⟨some bp,oa,oc,ho.1,.inr ⟨bp,L,bR,rfl,h1,ho⟩⟩
theorem dZ.idle {w w':World} {Own G Gm:Nat→Prop} {bw:Nat} {W:Wd} (h:dZ w Own G bw W) (hc:ae [] w w') (hgm : ∀ x,Gm x→x < w.heap.size∧¬ Own x):dZ w' (More Own w w') (fun x=>G x∨Gm x) bw W:=by
 have hs:=hc.size;refine⟨.inl h.own,fun x hx=>?_,fun x hx hx'=>?_,h.good,h.few,?_⟩
 ·rcases hx with(hx|hx)|hx|hx
  ·have:=h.lt x (.inl hx);omega
  ·exact hx.2
  ·have:=h.lt x (.inr hx);omega
  ·have:=(hgm x hx).1;omega
 ·rcases hx with hx|hx <;> rcases hx' with hx'|hx'
  ·exact h.zG x hx hx'
  ·exact(hgm x hx').2 hx
  ·have:=h.lt x (.inr hx');omega
  ·have:=(hgm x hx').1;omega
 ·rcases h.at_ with⟨h1,h2⟩|⟨L,h1⟩
  ·exact .inl ⟨h1,h2.kept hc (by simp)⟩
  ·refine .inr ⟨L,?_⟩
   have h2:=h1.kept hc (by simp);obtain⟨bp,ov,bR,g1,g2,g3,g4,g5,g6,g7⟩:=h2.order;refine⟨h2.lg,h2.M,fun x hx=>(h2.fix x hx).imp .inl .inl,fun x hx=>.inl (h2.ay x hx),h2.home,⟨bp,ov,bR,g1,g2,g3,fun g hg=>⟨(g4 g hg).1,.inl (g4 g hg).2⟩,g5,.inl g6,fun q=>?_⟩,h2.inj⟩;have:=g7 q;cases hq:W.M q with
   | none=>rw [hq] at this;exact this
   | some m=>
    rw [hq] at this;obtain⟨a1,a2,bv,⟨a3,a4⟩,a5⟩:=this;exact⟨a1,.inl a2,bv,⟨.inl a3,a4⟩,a5.mono (fun x hx=>⟨hx.1,hx.2.imp .inl id⟩)⟩
end Go.Mq.Run
namespace Go.Proofs.YtechofppmnnomaaGreatDoor
open Go Go.RowKit Go.Mq Go.Mq.Tree Go.Mq.Sym Go.Mq.Run
open Go.Mq.Check (fI cu bK dx check Out)
open Go.Mq.fo (aZ getM dB jm jV mQ jo)
set_option maxRecDepth 100000
set_option maxHeartbeats 4000000
def zH (w:World) (Own G Gm:Nat→Prop) (bw:Nat) (r:Wd × Nat × List Int × Out) (e:Ending) (w':World):Prop:=
 ∃ ve vo,e = .returned (.tuple #[ve,vo])∧DL w' w.heap.size r.2.1 r.2.2.1 ve∧ql w' r.2.2.2 vo∧dZ w' (More Own w w') (fun x=>G x∨Gm x) bw r.1∧vF Own w w'
theorem G9 {w:World} {Own G:Nat→Prop} {bw:Nat} {W:Wd} {pv:Option Nat} {oa:Option Addr} {oc:Nat} (h:Lu w Own G bw W pv oa oc) (q:Nm) : ∃ o,∀ w',ae [] w w'→(Instr.lookup 38 (.map pv) (str q) true).run Tryz.prog w' = .ok (.tuple #[.pointer o,.bool (W.M q).isSome]) w':=by
 rcases h.at_ with⟨rfl,rfl,_⟩|⟨bp,L,bR,rfl,_,ho⟩
 ·refine⟨none,fun w' hc=>?_⟩
  have:=mQ (P:=Tryz.prog) Tryz.underlying38 Tryz.underlying9 (rR w') q true;rw [if_pos rfl] at this;exact this
 ·have:=ho.2.2.2.2.2.2 q
  cases hq:W.M q with
  | none=>
   refine⟨none,fun w' hc=>?_⟩;have hl:=jV (P:=Tryz.prog) Tryz.underlying38 Tryz.underlying9 (rR w') (ho.2.2.1.kept hc (by simp)) q;rw [hq] at this;simp only at this;rw [this] at hl;exact hl
  | some m=>
   refine⟨some ⟨L.pb q,0,none⟩,fun w' hc=>?_⟩;have hl:=jV (P:=Tryz.prog) Tryz.underlying38 Tryz.underlying9 (rR w') (ho.2.2.1.kept hc (by simp)) q;rw [hq] at this;simp only at this;rw [this.1] at hl;exact hl
theorem RX (m:Mod) (dK : m.vars.length≤10) (hlen : ∀ g∈m.vars,0≤g.len∧g.len≤30) (F:Nat→Prop) (ai:Option Addr) (ci:Nat) (av:Option Addr) (cv:Nat) (ap:Option Addr) (cp:Nat) (ab:Option Addr) (cb:Nat) (w:World) (hg:lD w F m.vars (.slice av m.vars.length cv)) (wq:World) (hq:ae [] w wq) :
  Calls Tryz.prog 39 #[.agg #[str m.name,.slice ai m.imports.length ci,.slice av m.vars.length cv,.slice ap m.procs.length cp,.slice ab m.body.len cb]] wq (fun e w5=>∃ bv au ay,e = .returned (.map (some bv))∧w.heap.size≤bv∧kK w5 w.heap.size bv m.vars au ay∧ae [] wq w5):=by
 refine(abx m dK hlen F ai m.imports.length ci av cv ap m.procs.length cp ab m.body.len cb wq (hg.kept hq (by simp))).mono ?_;rintro e w5 ⟨bv,au,ay,rfl,h1,h2,h3⟩;have hs:=hq.size;refine⟨bv,au,ay,rfl,by omega,⟨h2.map,h2.inj,h2.arr,fun ha=>?_,h2.is⟩,h3⟩;obtain⟨h4,h5,h6⟩:=h2.low ha;exact⟨by omega,h5,h6⟩
theorem mD {w:World} {be:Nat} (n:Int) (v:Value) {u0 u1:Value} {t:TypeId} (h:ag w be #[u0,u1] t) : ∃ wE,((w.setCell ⟨be,0,none⟩ (num n)).setCell ⟨be,1,none⟩ v)=wE∧ag wE be #[num n,v] t∧ae [be] w wE:=
 ⟨_,rfl,by simpa using (h.set 0 (num n)).set 1 v,(ae.set1 _ _ _ _).then (ae.set1 _ _ _ _)⟩
theorem zH.no {w w':World} {Own G Gm:Nat→Prop} {bw:Nat} {W:Wd} {o:Out} {vo:Value} (h:dZ w Own G bw W) (hc:ae [] w w') (hgm : ∀ x,Gm x→x < w.heap.size∧¬ Own x) (he:ql w' o vo):zH w Own G Gm bw (W,0,[],o) (.returned (.tuple #[.agg #[num 0,ah],vo])) w':=
 ⟨_,_,rfl,⟨ah,rfl,⟨rfl,.inl ⟨rfl,rfl⟩⟩,From.nil _⟩,he,h.idle hc hgm,.of hc⟩
theorem RY (g:Nat) {w:World} {Own G Gm:Nat→Prop} {bw:Nat} {W:Wd} {m:Mod} {vm:Value} {fuel:Nat} {r:Wd × Nat × List Int × Out} (h:dZ w Own G bw W) (hm:gY w Gm m vm) (hgm : ∀ x,Gm x→x < w.heap.size∧¬ Own x) (hgood:kL m) (hfu : fuel≤9223372036854775807) (hr : mi g W m fuel=some r) :
  Calls Tryz.prog 14 #[ptr bw,vm,num fuel] w (zH w Own G Gm bw r):=by
 have hmm:=@run_makeMap Tryz.prog;obtain⟨pv,oa,oc,hfr⟩:=h.front;obtain⟨ai,ci,av,cv,ap,cp,ab,cb,rfl⟩ : ∃ (ai:Option Addr) (ci:Nat) (av:Option Addr) (cv:Nat) (ap:Option Addr) (cp:Nat) (ab:Option Addr) (cb:Nat),vm = .agg #[str m.name,.slice ai m.imports.length ci,.slice av m.vars.length cv,.slice ap m.procs.length cp,.slice ab m.body.len cb]:=by
  obtain⟨vi,vv,vp,vb,rfl,⟨ai,ci,rfl,_⟩,⟨av,cv,rfl,_⟩,⟨ap,cp,uO,rfl,_⟩,⟨ab,cb,DV,rfl,_⟩⟩:=hm;exact⟨_,_,_,_,_,_,_,_,rfl⟩
 obtain⟨w0,hw0⟩ : ∃ x,w.alloc (.cells #[str m.name,.slice ai m.imports.length ci,.slice av m.vars.length cv,.slice ap m.procs.length cp,.slice ab m.body.len cb] 32)=x:=⟨_,rfl⟩
 have hb0:ag w0 w.heap.size #[str m.name,.slice ai m.imports.length ci,.slice av m.vars.length cv,.slice ap m.procs.length cp,.slice ab m.body.len cb] 32:=by rw [← hw0];exact ag.new w _ _
 have hc0:ae [] w w0:=by rw [← hw0];exact(ae.refl _ _).alloc _
 have hs0 : w0.heap.size=w.heap.size + 1:=by rw [← hw0];simp
 obtain⟨w1,hw1⟩ : ∃ x,w0.alloc (.cells #[num 0,ah] 43)=x:=⟨_,rfl⟩
 have hb1:ag w1 w0.heap.size #[num 0,ah] 43:=by rw [← hw1];exact ag.new w0 _ _
 have hc1:ae [] w0 w1:=by rw [← hw1];exact(ae.refl _ _).alloc _
 have hs1 : w1.heap.size=w0.heap.size + 1:=by rw [← hw1];simp
 obtain⟨bm,gy⟩ : ∃ b,b=w.heap.size:=⟨_,rfl⟩
 obtain⟨be,hbe⟩ : ∃ b,b=w0.heap.size:=⟨_,rfl⟩
 have Eb:ae [] w w1:=hc0.then hc1
 obtain⟨wD,aI⟩ : ∃ x,x=w1.drew:=⟨_,rfl⟩
 have bz:ae [] w wD:=Eb.then (by rw [aI];exact(ae.refl [] w1).drew)
 have xI:ae [] w1 wD:=by rw [aI];exact(ae.refl [] w1).drew
 have hbD:=(hb0.kept hc1 (by simp)).kept xI (by simp);have uf:=hb1.kept xI (by simp);have hwb:=hfr.blk.kept bz (by simp);rw [← gy] at hbD;rw [← hbe] at uf;have m0:=hbD.cell 0 _ rfl;have b0:=hwb.cell 0 _ rfl;have b1:=hwb.cell 1 _ rfl;have Z1:=zh (bZ.of (X:=[]) (w0:=wD) m0 (by simp));have Z2:=zh (bZ.of (X:=[]) (w0:=wD) b0 (by simp));obtain⟨o,hlk⟩:=G9 hfr m.name;have fV:=zh (fun w' (hc:ae [] wD w')=>hlk w' (bz.then hc));clear hlk;obtain⟨bi,hbi⟩ : ∃ b,b=(W.M m.name).isSome:=⟨_,rfl⟩
 rw [← hbi] at fV;have Bl:=zh hbi;clear hbi;have dW:=zh (show bm=w.heap.size∧be=w.heap.size + 1∧wD.heap.size=w.heap.size + 2∧bw < w.heap.size by
  have:=h.lt bw (.inl h.own);exact⟨gy,by omega,by rw [aI];show w1.heap.size=_;omega,this⟩)
 have fJ:=zh (fun(wx:World) (hx:ae [] w wx)=>(show ae [] w ((wx.setCell ⟨be,0,none⟩ (num 0)).setCell ⟨be,1,none⟩ ah) from hx.trans ((ae.set1 _ _ _ _).then (ae.set1 _ _ _ _)) (fun x hx=>.inr (by have:=dW.out;simp at hx;omega))));have H:=zh h;have HM:=zh hm;have iZ:=zh hgm;have gm:=zh hgood;have HR:=zh hr;have cB:=zh hfr;have oG:=zh hbD;have jN:=zh uf;have dL:=zh bz;have Lv:=zh hfu;clear h hm hgm hgood hr hfr hb0 hc0 hs0 hb1 hc1 hs1 Eb bz xI hbD uf hwb hfu
 go_enter Tryz.func14,Tryz.ntmps14
 go_wp2_with fail;rw [← gy,← hbe];clear hw0 hw1 gy hbe;refine ug [] rfl (by kernel_rfl) ?_;rw [← aI];clear aI;have hS:ae [] wD wD:=ae.refl _ _
 repeat ((with_reducible refine gX ?_);(first|refine aM ?_|refine sK ?_|refine sM fun _ _=>?_|refine sL fun _ _=>?_|refine sE fun _ _=>?_);go_wp2_with fail)
 refine qW rfl rfl rfl rfl fV.out ?_;cases bi with
 | true=>
  have e0:=jN.out.cell 0 _ rfl;have f0:=jN.out.frozen 0;have e1:=jN.out.cell 1 _ rfl;have f1:=jN.out.frozen 1;go_wp2_with fail
  repeat ((with_reducible refine gX ?_);(first|refine aM ?_|refine sK ?_|refine sM fun _ _=>?_|refine sL fun _ _=>?_|refine sE fun _ _=>?_);go_wp2_with fail)
  clear hS Z1 Z2;go_wp2_with fail;obtain⟨wE,bV,fe,fu⟩:=mD 0 ah (jN.out);rw [bV];have y0:=fe.cell 0 _ rfl;have y1:=fe.cell 1 _ rfl;refine bodyPost_ret (v:=.tuple #[.agg #[num 0,ah],.iface 46 (num 9)]) (by simp [results,Tryz.results14,go_sem,y0,y1]) rfl ?_;have hrr:=HR.out;rw [mi,← Bl.out,if_pos rfl] at hrr;cases hrr
  rw [← bV];exact zH.no H.out (fJ.out wD dL.out) iZ.out rfl
 | false=>
  go_wp2_with fail
  repeat ((with_reducible refine gX ?_);(first|refine aM ?_|refine sK ?_|refine sM fun _ _=>?_|refine sL fun _ _=>?_|refine sE fun _ _=>?_);go_wp2_with fail)
  clear hS Z1 Z2;go_wp2_with fail;obtain⟨w2,hw2⟩ : ∃ x,x=wD.drew:=⟨_,rfl⟩
  have hc2:ae [] w w2:=dL.out.then (by rw [hw2];exact(ae.refl [] wD).drew)
  have Lx:ae [] wD w2:=by rw [hw2];exact(ae.refl [] wD).drew
  have Bn:=oG.out.kept Lx (by simp);have q0:=Bn.cell 0 _ rfl;have q1:=Bn.cell 1 _ rfl;have q2:=Bn.cell 2 _ rfl;have q3:=Bn.cell 3 _ rfl;have q4:=Bn.cell 4 _ rfl;have Z1:=zh (bZ.of (X:=[]) (w0:=w2) q0 (by simp));have HS:=zh (RI (H.out.kept hc2 (by simp)));have aD:=zh hc2;have RZ:=zh Lx;clear hc2 Lx Bn;refine ug [] rfl (by kernel_rfl) ?_;rw [← hw2];clear hw2;have hS:ae [] w2 w2:=ae.refl _ _
  repeat ((with_reducible refine gX ?_);(first|refine aM ?_|refine sK ?_|refine sM fun _ _=>?_|refine sL fun _ _=>?_|refine sE fun _ _=>?_);go_wp2_with fail)
  refine HS.out.mono ?_;rintro _ w3 ⟨vs,rfl,hsv,hc3⟩;have uP:=zh hsv;have bG:=zh hc3;have vw:=zh (Q7 m gm.out.few (dP W.M) (fun x=>Gm x∨New w2 w3 x) _ vs w3 (fun x hx=>by
   rcases hx with hx|hx
   ·have:=(iZ.out x hx).1;have:=(aD.out.then hc3).size;omega
   ·exact hx.2) ((HM.out.kept (aD.out.then hc3) (by simp)).mono (fun x hx=>.inl hx)) (hsv.mono (fun x hx=>.inr hx)))
  obtain⟨sv,rfl⟩ : ∃ ov,vs = .map ov:=by
   rcases hsv with⟨h,_⟩|⟨b,_,h,_⟩
   ·exact⟨_,h⟩
   ·exact⟨_,h⟩
  clear hS hsv hc3;go_wp2_with fail;refine And.intro bG.out ?_;have hS:=bG.out
  repeat ((with_reducible refine gX ?_);(first|refine aM ?_|refine sK ?_|refine sM fun _ _=>?_|refine sL fun _ _=>?_|refine sE fun _ _=>?_);go_wp2_with fail)
  refine vw.out.mono ?_;rintro e w4 ⟨hc4,hck⟩;have cz:=zh hc4;obtain⟨LA,hoc⟩ : ∃ o,o=check m (dP W.M):=⟨_,rfl⟩
  rw [← hoc] at hck;have sw:=zh hoc;have nU:=zh (bG.out.then hc4);have lQ:=zh (aD.out.then (bG.out.then hc4));have lh:=zh (RZ.out.then (bG.out.then hc4));clear hS hc4 hoc;have HRR:=zh (show mi g W m fuel=some r from HR.out);cases LA with
  | plain n=>
   simp only at hck;subst hck;have e0:=(jN.out.kept lh.out (by simp)).cell 0 _ rfl;have f0:=(jN.out.kept lh.out (by simp)).frozen 0;have e1:=(jN.out.kept lh.out (by simp)).cell 1 _ rfl;have f1:=(jN.out.kept lh.out (by simp)).frozen 1;go_wp2_with fail;refine And.intro nU.out ?_;have hS:=nU.out
   repeat ((with_reducible refine gX ?_);(first|refine aM ?_|refine sK ?_|refine sM fun _ _=>?_|refine sL fun _ _=>?_|refine sE fun _ _=>?_);go_wp2_with fail)
   clear hS Z1 q0 q1 q2 q3 q4;go_wp2_with fail;obtain⟨wE,bV,fe,fu⟩:=mD 0 ah (jN.out.kept lh.out (by simp));rw [bV];have y0:=fe.cell 0 _ rfl;have y1:=fe.cell 1 _ rfl;refine bodyPost_ret (v:=.tuple #[.agg #[num 0,ah],.iface 46 (num n)]) (by simp [results,Tryz.results14,go_sem,y0,y1]) rfl ?_;have hrr:=HR.out;rw [mi,← Bl.out,if_neg (by simp),← sw.out] at hrr;cases hrr
   rw [← bV];exact zH.no H.out (fJ.out w4 lQ.out) iZ.out rfl
  | at_ en p=>
   obtain⟨ba,rfl,jL,hbb⟩:=hck;have qg:=zh hbb;have e0:=(jN.out.kept lh.out (by simp)).cell 0 _ rfl;have f0:=(jN.out.kept lh.out (by simp)).frozen 0;have e1:=(jN.out.kept lh.out (by simp)).cell 1 _ rfl;have f1:=(jN.out.kept lh.out (by simp)).frozen 1;have HBA:=zh jL;clear hbb jL;go_wp2_with fail;refine And.intro nU.out ?_;have hS:=nU.out
   repeat ((with_reducible refine gX ?_);(first|refine aM ?_|refine sK ?_|refine sM fun _ _=>?_|refine sL fun _ _=>?_|refine sE fun _ _=>?_);go_wp2_with fail)
   clear hS Z1 q0 q1 q2 q3 q4;go_wp2_with fail;obtain⟨wE,bV,fe,fu⟩:=mD 0 ah (jN.out.kept lh.out (by simp));rw [bV];have y0:=fe.cell 0 _ rfl;have y1:=fe.cell 1 _ rfl;refine bodyPost_ret (v:=.tuple #[.agg #[num 0,ah],.iface 140 (ptr ba)]) (by simp [results,Tryz.results14,go_sem,y0,y1]) rfl ?_;have hrr:=HR.out;rw [mi,← Bl.out,if_neg (by simp),← sw.out] at hrr;cases hrr
   rw [← bV];refine zH.no H.out (fJ.out w4 lQ.out) iZ.out ⟨ba,rfl,qg.out.kept ((ae.set1 _ _ _ _).then (ae.set1 _ _ _ _)) (by have:=HBA.out;have:=dW.out;have:=aD.out.size;have:=bG.out.size;have:=RZ.out.size;simp;omega)⟩
  | fine=>
   simp only at hck;subst hck;have mW:=cB.out.blk.kept lQ.out (by simp);by_cases hfull:W.order.length=10
   ·rw [hfull] at mW
    have c0:=mW.cell 0 _ rfl;have c1:=mW.cell 1 _ rfl;have e0:=(jN.out.kept lh.out (by simp)).cell 0 _ rfl;have f0:=(jN.out.kept lh.out (by simp)).frozen 0;have e1:=(jN.out.kept lh.out (by simp)).cell 1 _ rfl;have f1:=(jN.out.kept lh.out (by simp)).frozen 1;have uh:=zh hfull;clear mW hfull;go_wp2_with fail;refine And.intro nU.out ?_;have hS:=nU.out
    repeat ((with_reducible refine gX ?_);(first|refine aM ?_|refine sK ?_|refine sM fun _ _=>?_|refine sL fun _ _=>?_|refine sE fun _ _=>?_);go_wp2_with fail)
    clear hS Z1 q0 q1 q2 q3 q4
    try go_wp2_with fail
    obtain⟨wE,bV,fe,fu⟩:=mD 0 ah (jN.out.kept lh.out (by simp));rw [bV];have y0:=fe.cell 0 _ rfl;have y1:=fe.cell 1 _ rfl;refine bodyPost_ret (v:=.tuple #[.agg #[num 0,ah],.iface 46 (num 12)]) (by simp [results,Tryz.results14,go_sem,y0,y1]) rfl ?_;have hrr:=HR.out;rw [mi,← Bl.out,if_neg (by simp),← sw.out] at hrr;simp only at hrr;rw [if_pos uh.out] at hrr;cases hrr
    rw [← bV];exact zH.no H.out (fJ.out w4 lQ.out) iZ.out rfl
   ·have hfl : ¬ ((W.order.length:Int)=10):=by omega
    have c0:=mW.cell 0 _ rfl;have c1:=mW.cell 1 _ rfl;have cf:=mW.frozen 0;have uh:=zh hfull;clear hfull;rcases cB.out.at_ with hz|hz
    focus
     obtain⟨rfl,hW,hoa,hoc⟩:=hz;have HWZ:=zh hW;have HOA:=zh hoa;have ab1:=zh hoc;have hne : ∀ w,(binOp BinOp.eql 38 (.map none) (.map none)).run Tryz.prog w = .ok (.bool true) w:=fun _=>rfl
     obtain⟨wa,xC⟩ : ∃ x,w4.alloc (.map #[] 0)=x:=⟨_,rfl⟩
     obtain⟨bp,hbp⟩ : ∃ b,b=w4.heap.size:=⟨_,rfl⟩
     have xD:aZ wa bp []:=by rw [← xC,hbp];exact aZ.made w4
     have aO:ae [] w4 wa:=by rw [← xC];exact(ae.refl _ _).alloc _
     have jL:=mW.kept aO (by simp);obtain⟨wT,hwT⟩ : ∃ x,wa.setCell ⟨bw,0,none⟩ (.map (some bp))=x:=⟨_,rfl⟩
     have xH:ag wT bw #[.map (some bp),.slice oa W.order.length oc] 40:=by rw [← hwT];exact jL.set 0 (.map (some bp))
     have ji:ae [bw] wa wT:=by rw [← hwT];exact ae.set1 _ _ _ _
     have Ha:aZ wT bp []:=xD.kept ji (by simp;have:=dW.out;have:=lQ.out.size;omega);have cff:=jL.frozen 0;have caa:=jL.cell 0 _ rfl;clear mW hW hoa hoc;go_wp2_with fail;refine And.intro nU.out ?_;have hS:=nU.out
     repeat ((with_reducible refine gX ?_);(first|refine aM ?_|refine sK ?_|refine sM fun _ _=>?_|refine sL fun _ _=>?_|refine sE fun _ _=>?_);go_wp2_with fail)
     clear hS q0 q1 q2 q3 q4
     try go_wp2_with fail
     rw [← hbp,hwT];have LB:ae [bw] w wT:=(lQ.out.then aO).weak.then ji
     have Hd:=((oG.out.kept lh.out (by simp)).kept aO (by simp)).kept ji (by have:=dW.out;simp;omega);have He:=((jN.out.kept lh.out (by simp)).kept aO (by simp)).kept ji (by have:=dW.out;simp;omega);have Hf:=(HM.out.kept (lQ.out.then aO) (by simp)).kept ji (fun x hx hf=>by simp at hx;subst hx;exact(iZ.out _ hf).2 H.out.own);obtain⟨uj,vG⟩ : ∃ O:Nat→Prop,O=fun x=>Own x∨x=bp:=⟨_,rfl⟩
     have Ec:=zh (show uj bw by rw [vG];exact .inl H.out.own);obtain⟨L,bR,hhas,fZ⟩ : ∃ L bR,Has wT uj G bw W L∧ng wT uj G bw W L bp (.slice oa W.order.length oc) bR:=by
      obtain rfl:=HWZ.out;obtain rfl:=HOA.out;obtain rfl:=ab1.out;subst vG;have hz:=Has.zero (Own:=fun x=>Own x∨x=bp) (G:=G) xH Ha (.inl H.out.own) (.inr rfl);exact⟨_,[],hz,xH,⟨rfl,.inl ⟨rfl,rfl⟩⟩,Ha,(fun g hg=>by cases hg),.inr rfl,.inr rfl,fun q=>rfl⟩
     have hown : ∀ x,uj x→Own x∨(w.heap.size≤x∧x < wT.heap.size):=by rw [vG];exact fun x hx=>hx.imp id (fun h=>by subst h;have:=lQ.out.size;have:=Ha.lt;omega)
     have oL:=zh (show ¬ uj be by rw [vG];exact fun h=>h.elim (fun h=>by have:=H.out.lt be (.inl h);have:=dW.out;omega) (fun e=>(fZ.other He (by decide)).1 e));clear xD aO jL xH ji Ha hwT xC hbp caa cff c0 c1 cf vG
    rotate_left
    focus
     obtain⟨bp,L,bR,rfl,hhas,fZ⟩:=hz;have hne : ∀ w,(binOp BinOp.eql 38 (.map (some bp)) (.map none)).run Tryz.prog w = .ok (.bool false) w:=fun _=>rfl
     have kM:=zh hhas;have fC:=zh fZ;clear hhas fZ mW;go_wp2_with fail;refine And.intro nU.out ?_;have hS:=nU.out
     repeat ((with_reducible refine gX ?_);(first|refine aM ?_|refine sK ?_|refine sM fun _ _=>?_|refine sL fun _ _=>?_|refine sE fun _ _=>?_);go_wp2_with fail)
     clear hS q0 q1 q2 q3 q4
     try go_wp2_with fail
     have LB:ae [bw] w w4:=lQ.out.weak;have Hd:=oG.out.kept lh.out (by simp);have He:=jN.out.kept lh.out (by simp);have Hf:=HM.out.kept lQ.out (by simp);have hhas:=kM.out.kept lQ.out (by simp);have fZ:=fC.out.Bh (by rw [← kM.out.lg];exact kM.out.home.stat.own) lQ.out (by simp);have Ec:=zh H.out.own;have oL:=zh (show ¬ Own be from fun h=>by have:=H.out.lt be (.inl h);have:=dW.out;omega);obtain⟨uj,vG⟩ : ∃ O,O=Own:=⟨_,rfl⟩
     rw [← vG] at Ec oL hhas fZ;have hown : ∀ x,uj x→Own x∨(w.heap.size≤x∧x < w4.heap.size):=by rw [vG];exact fun x hx=>.inl hx
     obtain⟨wT,rfl⟩ : ∃ x,x=w4:=⟨_,rfl⟩
     clear c0 c1 cf vG
    all_goals
     obtain⟨wU,Bo⟩ : ∃ x,x=wT.drew:=⟨_,rfl⟩
     have Hg:ae [] wT wU:=by rw [Bo];exact(ae.refl [] _).drew
     have HSU:=zh (show wU.heap.size=wT.heap.size by rw [Bo];rfl);have Bp:=Hd.kept Hg (by simp);have q0:=Bp.cell 0 _ rfl;have q1:=Bp.cell 1 _ rfl;have q2:=Bp.cell 2 _ rfl;have q3:=Bp.cell 3 _ rfl;have q4:=Bp.cell 4 _ rfl;have Z1:=zh (bZ.of (X:=[]) (w0:=wU) q0 (by simp));have HST:=zh (RX m gm.out.wf.oF (fun g hg=>⟨(gm.out.wf.vars g hg).low,(gm.out.wf.vars g hg).high⟩) Gm ai ci av cv ap cp ab cb wU (by
      obtain⟨vi,vv,vp,vb,he,_,hgl,_⟩:=Hf.kept Hg (by simp);cases he
      exact hgl))
     have LC:=zh LB;have lX:=zh Hd;have gZ:=zh He;have j6:=zh Hf;have Ed:=zh hhas;have xJ:=zh fZ;have HOWN:=zh hown;have R3:=zh Hg;clear LB Hd He Hf hhas fZ hown Hg Bp;have LD:=zh Bo;clear Bo q0 q1 q2 q3 q4 Z1;refine abV (m:=m) (bm:=bm) (by simp) rfl ⟨rfl,rfl,rfl,rfl,rfl,rfl⟩ (by rw [← LD.out];exact lX.out.kept R3.out (by simp)) (by rw [← LD.out];exact HST.out) ?_;rw [← LD.out];intro bv au ay bp' bt wR hps hva hcR hbR R4;have iJ:=zh hva;have Ee:=zh hps.2.2;have HSR:=zh hcR;have AU:=zh hbR;have oO:=zh R4;have tH:=zh (show wU.heap.size≤bp'∧wU.heap.size≤bt∧bt < wR.heap.size from⟨hps.1,hps.2.1,hbR.lt⟩);clear hva hcR hbR R4 hps;simp only [jh,List.setIfInBounds_toArray,List.set_cons_succ,List.set_cons_zero]
     try go_wp2_with fail
     obtain⟨wV,xK⟩ : ∃ x,x=wR.drew:=⟨_,rfl⟩
     have zI:ae [] wR wV:=by rw [xK];exact(ae.refl [] _).drew
     have Hl:ae [] wT wV:=(R3.out.then HSR.out).then zI
     have Hm:=xJ.out.Bh (by rw [← Ed.out.lg];exact Ed.out.home.stat.own) Hl (by simp);have d0:=(lX.out.kept Hl (by simp)).cell 0 _ rfl;have b0:=Hm.1.cell 0 _ rfl;have t0:=(AU.out.kept zI (by simp)).cell 0 _ rfl;have Z1:=zh (bZ.of (X:=[]) (w0:=wV) d0 (by simp));have Z2:=zh (bZ.of (X:=[]) (w0:=wV) b0 (by simp));obtain⟨w6,hup,xE,hc6⟩:=jo (P:=Tryz.prog) Tryz.underlying38 Tryz.underlying9 Hm.2.2.1 m.name (ptr bp');have xL:=zh Hm;have Ho:=zh Hl;have vE:=zh xE;have bI:=zh hc6;have fP:=zh zI;clear zI Hl Hm xE hc6;refine Kv mV [] rfl (by kernel_rfl) rfl ?_;rw [← xK];clear xK;have hS:ae [] wV wV:=ae.refl _ _
     repeat ((with_reducible refine gX ?_);(first|refine aM ?_|refine sK ?_|refine sM fun _ _=>?_|refine sL fun _ _=>?_|refine sE fun _ _=>?_);go_wp2_with fail)
     refine tJ rfl rfl (fun _ _=>?_);clear hS Z1 Z2 d0 b0 t0;go_wp2_with fail;obtain⟨wX,lM⟩ : ∃ x,x=w6.drew:=⟨_,rfl⟩
     have iT:ae [] w6 wX:=by rw [lM];exact(ae.refl [] _).drew
     obtain⟨hs1,hs2,hs3⟩:=xL.out.sep;have hbX:=(xL.out.1.kept bI.out (by simpa using hs1)).kept iT (by simp);have R5:=cK (cK xL.out.2.1 bI.out (fun g hg hm=>by simp at hm;subst hm;exact hs3 hg)) iT (fun _ _ h=>by cases h);obtain⟨R6,R7⟩:=xJ.out.other lX.out (by decide);have R8:=(lX.out.kept Ho.out (by simp)).kept (bI.out.then iT.weak) (by simpa using R6);have R9 : bm∉blk (.slice oa W.order.length oc):=R7;have x1:=hbX.cell 1 _ rfl;have m0:=R8.cell 0 _ rfl;have Z1:=zh (bZ.of (X:=blk (.slice oa W.order.length oc)) (w0:=wX) x1 hs2);have Z2:=zh (bZ.of (X:=blk (.slice oa W.order.length oc)) (w0:=wX) m0 R9);have gJ:=zh hbX;have HOX:=zh R5;have yP:=zh iT;have HS2:=zh hs2;have qc:=zh H.out.few;clear iT hs1 hs2 hs3 hbX R5 R8 R9 R6 R7;refine AA (blk (.slice oa W.order.length oc)) rfl (by kernel_rfl) rfl ?_;rw [← lM];clear lM;have hS:ae (blk (.slice oa W.order.length oc)) wX wX:=ae.refl _ _
     repeat ((with_reducible refine gX ?_);(first|refine aM ?_|refine sK ?_|refine sM fun _ _=>?_|refine sL (hz:=by first|exact Z1.out|exact Z2.out) fun _ _=>?_|refine sE fun _ _=>?_);go_wp2_with fail)
     refine And.intro (hS.alloc _) ?_;have hS1:ae (blk (.slice oa W.order.length oc)) wX (wX.alloc (.cells #[str m.name] 9)):=hS.alloc _
     repeat ((with_reducible refine gX ?_);(first|refine aM ?_|refine sK ?_|refine sM fun _ _=>?_|refine sL (hz:=by first|exact Z1.out|exact Z2.out) fun _ _=>?_|refine sE fun _ _=>?_);go_wp2_with fail)
     refine JC _ _ 27 rfl rfl rfl 9 (.string ⟨#[]⟩) 1 16 Ba Tryz.underlying27 rfl (by decide) (.slice oa W.order.length oc) W.order.length (W.order.map str) rfl (cK HOX.out ((ae.refl [] _).alloc _) (fun _ _ h=>by cases h)) (some ⟨wX.heap.size,0,none⟩) 1 1 [str m.name] rfl rfl (fun _=>⟨wX.heap.size,0,rfl,fun i x hx=>by rw [Nat.zero_add];exact(ag.new wX #[str m.name] 9).cell i x (by simpa using hx)⟩) (by simp [Value.oneCell']) (by have:=qc.out;omega) (by have:=qc.out;unfold maxLen;omega) ?_;intro v7 w7 vH dQ Sa;have Hq:ae (blk (.slice oa W.order.length oc)) wX w7:=(hS.alloc _).then dQ
     obtain⟨va,vc,rfl⟩:=gu vH;have dR:=gJ.out.kept Hq HS2.out;have z7:=dR.cell 1 _ rfl;have f7:=dR.frozen 1;obtain⟨w8,hw8⟩ : ∃ x,w7.setCell ⟨bw,1,none⟩ (.slice va (W.order.length + 1) vc)=x:=⟨_,rfl⟩
     have eD:ag w8 bw #[.map (some bp),.slice va (W.order.length + 1) vc] 40:=by rw [← hw8];exact dR.set 1 (.slice va (W.order.length + 1) vc)
     have hc8:ae [bw] w7 w8:=by rw [← hw8];exact ae.set1 _ _ _ _
     have AZ:=zh eD;have eU:=zh hc8;have Sb:=zh Hq;have zJ:=zh vH;have Sc:=zh Sa;clear hS hS1 vH dQ Sa dR eD hc8;refine And.intro Hq ?_
     repeat ((with_reducible refine gX ?_);(first|refine aM ?_|refine sK ?_|refine sM fun _ _=>?_|refine sL (hz:=by first|exact Z1.out|exact Z2.out) fun _ _=>?_|refine sE fun _ _=>?_);go_wp2_with fail)
     refine tJ rfl rfl (fun _ _=>?_)
     change Oper.wp _ (Oper.mk ..) ..
     clear Hq Z1 Z2 x1 m0;go_wp2_with fail;clear z7 f7 hw8;have Sd : wU.heap.size=wT.heap.size:=HSU.out;have hwT : w.heap.size≤wT.heap.size:=LC.out.size;have Ef : ∀ x,uj x→x < wT.heap.size:=fun x hx=>by
      rcases HOWN.out x hx with h|h
      ·have:=H.out.lt x (.inl h);omega
      ·exact h.2
     have Bq : ∀ x∈bw :: bp :: blk (.slice oa W.order.length oc),uj x:=fun x hx=>by
      rcases List.mem_cons.1 hx with rfl|hx
      ·exact Ec.out
      ·rcases List.mem_cons.1 hx with rfl|hx
       ·exact xJ.out.2.2.2.2.2.1
       ·exact(xJ.out.2.2.2.1 x hx).2
     have Sg:ae (bw :: bp :: blk (.slice oa W.order.length oc)) w6 w8:=(yP.out.weak.then (Sb.out.mono (fun x hx=>.inl (List.mem_cons_of_mem _ (List.mem_cons_of_mem _ hx))))).then (eU.out.mono (fun x hx=>.inl (by simp at hx;simp [hx])))
     have LF:ae (bw :: bp :: blk (.slice oa W.order.length oc)) wV w8:=(bI.out.mono (fun x hx=>.inl (by simp at hx;simp [hx]))).then Sg
     have xM:ae (bw :: bp :: blk (.slice oa W.order.length oc)) wT w8:=Ho.out.weak.then LF
     have Hr:ae (bw :: bp :: blk (.slice oa W.order.length oc)) wR w8:=fP.out.weak.then LF
     have hnn : ∀ x,wT.heap.size≤x→x∉bw :: bp :: blk (.slice oa W.order.length oc):=fun x hx hm=>by have:=Ef x (Bq x hm);omega
     obtain⟨hs1,hs2,hs3⟩:=xL.out.sep;obtain⟨Si,qJ⟩:=xJ.out.other gZ.out (by decide);have LG:dS wT (.slice oa W.order.length oc) (.slice va (W.order.length + 1) vc):=fun x hx=>(Sc.out x hx).imp id (fun h=>by have:=Ho.out.size;have:=bI.out.size;have:=yP.out.size;simp at h;omega)
     have ab7 : be < wT.heap.size:=gZ.out.lt;have hps:=tH.out;have hbv:=Ee.out;have ab8:=xM.size;have zK:=zh (Ed.out.more (Own':=fun x=>Own x∨(w.heap.size≤x∧x < w8.heap.size)) (Gm:=Gm) (lo:=wU.heap.size) (t:=be) (b:=bp') (bv:=bv) Ec.out (fun x hx=>by
       rcases HOWN.out x hx with h|h
       ·exact⟨H.out.zG x h,fun hg=>(iZ.out x hg).2 h⟩
       ·exact⟨fun hg=>by have:=H.out.lt x (.inr hg);omega,fun hg=>by have:=(iZ.out x hg).1;omega⟩) (fun x hx=>by
       rcases hx with h|h|h
       ·have:=Ef x h;omega
       ·have:=H.out.lt x (.inr h);omega
       ·have:=(iZ.out x h).1;omega) (Nat.le_of_eq Sd) (by
       cases hq:W.M m.name with
       | none=>rfl
       | some x=>have:=Bl.out;rw [hq] at this;cases this) gm.out.few xJ.out xM AZ.out (((vE.out.kept yP.out (by simp)).kept Sb.out hs3).kept eU.out (by simpa using hs1.symm)) (by
       have ho8:=cK zJ.out eU.out (fun g hg hm=>by
        simp at hm
        subst hm;rcases Sc.out g hg with h|h
        ·exact hs2 h
        ·have:=Ho.out.size;have:=bI.out.size;have:=yP.out.size;have:=Ef g Ec.out;simp at h;omega)
       simpa using ho8) LG (oO.out.kept Hr (hnn _ (by omega))) (j6.out.kept xM (fun x hx hf=>by
       rcases HOWN.out x (Bq x hx) with h|h
       ·exact(iZ.out x hf).2 h
       ·have:=(iZ.out x hf).1;omega)) (abG iJ.out Hr (fun x hx=>by have:=Ef x (Bq x hx);omega) hbv) ⟨hps.1,hbv⟩ ⟨by omega,by omega,fun hm=>by
       rcases LG be hm with h|h
       ·exact qJ h
       ·omega⟩ (fun x hx=>(HOWN.out x hx).imp id (fun h=>⟨h.1,by omega⟩)) (fun x h1 h2=>.inr ⟨by omega,h2⟩))
     obtain⟨L',hL'⟩ : ∃ x,x=(L).more m Gm wU.heap.size w8.heap.size be bp' au ay:=⟨_,rfl⟩
     rw [← hL'] at zK;have Ht:L'.M=bT W.M m:=zK.out.M;have hpb:L'.pb m.name=bp':=by rw [hL'];simp [Lay.more]
     have Sj : ∀ x,Gm x→L'.Fix x:=fun x hx=>by rw [hL'];exact .inr (.inl hx)
     have Sk : ¬ L'.Fix be∧be∉L'.ay:=by
      have Sl : ¬ uj be:=oL.out;rw [hL'];refine⟨fun h=>?_,fun h=>?_⟩
      ·rcases h with h|h|h
       ·rcases Ed.out.fix be h with h|h
        ·exact Sl h
        ·have:=H.out.lt be (.inr h);have:=dW.out;omega
       ·have:=(iZ.out be h).1;have:=dW.out;omega
       ·omega
      ·rcases List.mem_append.1 h with h|h
       ·exact Sl (Ed.out.ay be h)
       ·have:=(iJ.out.low h).1;omega
     obtain⟨ob,lq⟩ : ∃ o,o=(fns L'.M g).b 0 m.name [] m.body ⟨fuel,[],lN W.vs m⟩:=⟨_,rfl⟩
     have hrr:=HR.out;rw [mi,← Bl.out,if_neg (by simp),← sw.out] at hrr;simp only at hrr;rw [if_neg uh.out,← Ht,← lq] at hrr;have um : ob ≠ .stuck:=fun h=>by rw [h] at hrr;cases hrr
     have hnd : sj ob ≠ .stuck:=fun h=>by cases ob <;> first|exact um rfl|cases h
     have Sm:=lX.out.kept xM (fun hm=>by
      rcases List.mem_cons.1 hm with h|hm
      ·have:=dW.out;omega
      ·rcases List.mem_cons.1 hm with h|hm
       ·exact(xJ.out.other lX.out (by decide)).1 h
       ·exact(xJ.out.other lX.out (by decide)).2 hm)
     have Sn:=(AU.out.kept Hr (hnn _ (by omega))).cell 0 _ rfl;have Sq:=gZ.out.kept xM (fun hm=>by
      rcases List.mem_cons.1 hm with h|hm
      ·have:=dW.out;omega
      ·rcases List.mem_cons.1 hm with h|hm
       ·exact Si h
       ·exact qJ hm)
     obtain⟨vi8,vv8,vp8,vb8,LH,_,_,_,Sr⟩:=j6.out.kept xM (fun x hx hf=>by
       rcases HOWN.out x (Bq x hx) with h|h
       ·exact(iZ.out x hf).2 h
       ·have:=(iZ.out x hf).1;omega)
     cases LH
     have Eg:=zh (aaW 41 (ptr bt) (ptr bm) (fun args w=>rfl) (sj ob) (fun _ _ e=>e = .returned (.tuple #[])) (fun _ _ _ h=>h) L' (lN W.vs m) fuel Lv.out [] w8 zK.out.home (fun x hx=>by cases hx) hnd (fun w1 br hbr hc1 hg=>by
      rw [lq];exact abF g hg (by show L'.M m.name=some m;rw [Ht];simp [bT]) ((Sr.mono Sj).kept hc1 (by simp)) gm.out.few.body.1 gm.out.few.body.2 (by show w1.cell? _=some (ptr (L'.pb m.name));rw [hpb];exact hc1.aH Sn (by simp)) (Sm.kept hc1 (by simp)) (by show (fns L'.M g).b 0 m.name [] m.body _≠_;rw [← lq];exact um)))
     rw [zK.out.lg] at Eg;have HOB:=zh lq;have aca:=zh hrr;have aiq:=zh um;have Su:=zh Sk;have Sv:=zh Sq;have Ra:=zh Ht;have Sw:=zh xM;have HZO:=zh Bq;clear Sd hwT Ef Bq Sg LF xM Hr hnn hs1 hs2 hs3 Si qJ LG ab7 hps hbv ab8 hL' Ht hpb Sj Sk lq hrr um hnd Sm Sn Sq Sr;refine Eg.out.mono ?_;rintro _ w9 ⟨ve,rfl,hev,Br,bN,_⟩;obtain⟨eov,rfl,xN,hef⟩:=hev;obtain⟨ea,ec,rfl⟩:=gu xN;have Eh:=zh Br;have dm:=zh bN;have qm:=zh xN;have oZ:=zh hef;have iR:=Sv.out.kept bN (fun hm=>Su.out.2 (by simpa using hm));have y0:=iR.cell 0 _ rfl;have y1:=iR.cell 1 _ rfl;have f0:=iR.frozen 0;have f1:=iR.frozen 1;have Ei:=zh iR;clear Br bN xN hef iR;go_wp2_with fail;obtain⟨wE,bV,fe,fu⟩:=mD (zt (sj ob)) (.slice ea (tX ⟨fuel,[],lN W.vs m⟩ (sj ob)).out.length ec) Ei.out;rw [bV];have u0:=fe.cell 0 _ rfl;have u1:=fe.cell 1 _ rfl;refine bodyPost_ret (v:=.tuple #[.agg #[num (zt (sj ob)),.slice ea (tX ⟨fuel,[],lN W.vs m⟩ (sj ob)).out.length ec],.nilIface]) (by simp [results,Tryz.results14,go_sem,u0,u1]) rfl ?_;have hr' : r=(⟨bT W.M m,(tX ⟨fuel,[],lN W.vs m⟩ (sj ob)).vs,W.order ++ [m.name]⟩,zt (sj ob),(tX ⟨fuel,[],lN W.vs m⟩ (sj ob)).out,.fine):=by
      have hrr:=aca.out;rw [Ra.out] at hrr;cases ob with
      | stuck=>cases hrr
      | ok x s=>cases hrr;rfl
      | stop way s=>cases hrr;rfl
     have jg:=zK.out.home.lay w8.heap.size (Nat.le_refl _);have hse : w.heap.size≤w8.heap.size∧w8.heap.size≤wE.heap.size:=⟨by have:=LC.out.size;have:=Sw.out.size;omega,by have:=dm.out.size;have:=fu.size;omega⟩;have h9:=((zK.out.went Eh.out dm.out (fun x hx hf=>(jg.ay (show x∈L'.ay by simpa using hx)).1 hf)).Bh fu (fun x hx=>by simp at hx;subst hx;exact Su.out)).mono (Own':=More Own w wE) (fun x hx=>hx.imp id (fun h=>⟨h.1,by omega⟩));have air : w.heap.size≤be∧be < w8.heap.size:=⟨by have:=dW.out;omega,Sv.out.lt⟩;rw [hr'];refine⟨_,_,rfl,⟨_,rfl,cK qm.out fu (fun g hg hm=>?_),fun g hg=>?_⟩,rfl,⟨.inl H.out.own,fun x hx=>?_,fun x hx hx'=>?_,fun q m' hq=>?_,?_,.inr ⟨L',h9⟩⟩,?_⟩
     ·have:=oZ.out g hg;simp at hm;omega
     ·have:=oZ.out g hg;omega
     ·rcases hx with(hx|hx)|hx|hx
      ·have:=H.out.lt x (.inl hx);omega
      ·exact hx.2
      ·have:=H.out.lt x (.inr hx);omega
      ·have:=(iZ.out x hx).1;omega
     ·rcases hx with hx|hx <;> rcases hx' with hx'|hx'
      ·exact H.out.zG x hx hx'
      ·exact(iZ.out x hx').2 hx
      ·have:=H.out.lt x (.inr hx');omega
      ·have:=(iZ.out x hx').1;omega
     ·simp only [bT] at hq
      split at hq
      ·next e=>cases hq;exact⟨gm.out,e.symm⟩
      ·exact H.out.good q m' hq
     ·have:=H.out.few;have:=uh.out;simp;omega
     ·have hin : ∀ (l:List Nat) (b:World),w.heap.size≤b.heap.size → ∀ x∈l,x∈l.filter (fun x=>decide (x < w.heap.size))∨w.heap.size≤x:=fun l b hb x hx=>by
       by_cases hlt : x < w.heap.size
       ·exact .inl (List.mem_filter.2 ⟨hx,by simpa using hlt⟩)
       ·exact .inr (by omega)
      have hsub : ∀ x∈(bw :: bp :: blk (.slice oa W.order.length oc)) ++ L'.ay,x∈((bw :: bp :: blk (.slice oa W.order.length oc)) ++ L'.ay).filter (fun x=>decide (x < w.heap.size))∨w.heap.size≤x:=hin _ w (Nat.le_refl _)
      refine⟨((bw :: bp :: blk (.slice oa W.order.length oc)) ++ L'.ay).filter (fun x=>decide (x < w.heap.size)),?_,fun x hx=>?_⟩
      ·refine(((LC.out.mono (fun x hx=>?_)).trans Sw.out (fun x hx=>hsub x (List.mem_append_left _ hx))).trans dm.out (fun x hx=>hsub x (List.mem_append_right _ (by simpa using hx)))).trans fu (fun x hx=>.inr (by simp at hx;omega))
       simp at hx
       subst hx;exact hsub x (by simp)
      ·obtain⟨hx1,hx2⟩:=List.mem_filter.1 hx
       have hx2 : x < w.heap.size:=by simpa using hx2
       rcases List.mem_append.1 hx1 with hx1|hx1
       ·rcases HOWN.out x (HZO.out x hx1) with h|h
        ·exact h
        ·omega
       ·rcases zK.out.ay x hx1 with h|h
        ·exact h
        ·omega
end Go.Proofs.YtechofppmnnomaaGreatDoor
namespace Go.Mq.Run
open Go Go.RowKit Go.Mq Go.Mq.Tree
theorem ace {w:World} {F:Nat→Prop} {l:List aX} {bb off n c:Nat} (h:oz w F l (.slice (some ⟨bb,off,none⟩) n c)) (hl : 0 < l.length):F bb:=by
 obtain⟨a,c',cs,he,_,hr,hp⟩:=h;cases he
 cases l with
 | nil=>simp at hl
 | cons y r=>
  obtain⟨c1,c2,rfl,⟨_,_,_,rfl,_⟩,_⟩:=hp;exact hr.own (by simp) _ rfl
end Go.Mq.Run
namespace Go.Proofs.YtechofppmnnomaaGreatDoor
open Go Go.RowKit Go.Mq Go.Mq.Tree Go.Mq.Sym Go.Mq.Run
open Go.Mq.Check (fI cu bK dx check Out)
open Go.Mq.fo (aZ getM dB jm jV mQ jo)
set_option maxRecDepth 100000
set_option maxHeartbeats 4000000
theorem acf (g:Nat) {L:Lay} {q:Nm} {m:Mod} {p:aX} {k:Nat} {args:List Int} {a:Option Addr} {c:Nat} {s:St} {w:World} {b13 b15 b8 b11:Nat} {u:Value} (h:Going w L 0 s ah) (hq:L.M q=some m) (hk : m.procs[k]?=some p)
  (h13:ag w b13 #[ptr (L.pb q)] 94) (h15:ag w b15 #[num k] 3) (h8:ag w b8 #[.slice a args.length c] 41) (h11:ag w b11 #[u] bO) (LJ : b11∉aL L ah∧¬ L.Fix b11)
  (hrow:Row w (fun b=>b∉aL L ah) a (ints args)) (hal : args.length≤2000) (ho : (fns L.M g).c 0 q p args s ≠ .stuck) (X:List Nat) (hX : ∀ n s',(fns L.M g).c 0 q p args s = .ok n s'→X=[b11]) :
  Calls Tryz.prog 66 #[ptr L.br,ptr b13,ptr b15,ptr b8,ptr b11] w (aj w L 0 ah X (fun w' n e=>e = .returned (.tuple #[])∧ag w' b11 #[num n] bO) ((fns L.M g).c 0 q p args s)):=by
 obtain⟨tgt,ht⟩ : ∃ o,o=(fns L.M g).c 0 q p args s:=⟨_,rfl⟩
 obtain⟨wD,aI⟩ : ∃ x,x=w.drew:=⟨_,rfl⟩
 have bz:ae [] w wD:=by rw [aI];exact(ae.refl [] w).drew
 have hg:=h.kept bz;obtain⟨_,bp,bR,_,_,_,_,hall⟩:=hg.stat;have iX:=hall q;rw [hq] at iX;obtain⟨_,hown,dK,ai,ci,av,cv,ap,cp,ab,cb,bv,es,h3,h4,_⟩:=iX;obtain⟨vi,vv,vp,vb,nQ,_,_,hpr,_⟩:=h4;cases nQ
 obtain⟨bb,off,cc,Kj,Kk,Kl,hsl,hcc,d0,d1,d2,d3,d4,d5,hn1,hn2,jJ⟩:=Gg hpr hk;simp only [Value.slice.injEq,true_and] at hsl;obtain⟨rfl,rfl⟩:=hsl;have hkl:=(List.getElem?_eq_some_iff.1 hk).1;have hmem : p∈m.procs:=List.mem_of_getElem? hk;have hpl:=dK.procs;obtain⟨hb1,hb2⟩:=dK.bodies p hmem;obtain⟨hp1,hp2⟩:=dK.params p hmem;have Sz:L.Fix bb:=ace hpr (by omega);have hZ : ∀ x,L.Fix x→x∉b11 :: aL L ah:=fun x hx hm=>by
  rcases List.mem_cons.1 hm with rfl|hm
  ·exact LJ.2 hx
  ·exact hg.dz x hm hx
 have hT : ∀ {b:Nat} {cs:Array Value} {t:TypeId},ag wD b cs t→t≠bO→t≠160→b∉b11 :: aL L ah:=fun {b cs t} hb h1 h2 hm=>by
  rcases List.mem_cons.1 hm with rfl|hm
  ·have:=h11.kept bz (by simp);unfold ag at this hb;rw [this] at hb;simp at hb;exact h1 hb.2.symm
  ·exact hg.gQ hb h1 h2 hm
 have k13:=h13.kept bz (by simp);have k15:=h15.kept bz (by simp);have k8:=h8.kept bz (by simp);have k11:=h11.kept bz (by simp);have e13:=k13.cell 0 _ rfl;have e15:=k15.cell 0 _ rfl;have e8:=k8.cell 0 _ rfl;have e3:=h3.cell 3 _ rfl;have Z1:=zh (bZ.of (X:=b11 :: aL L ah) (w0:=wD) e13 (hT k13 (by decide) (by decide)));have Z2:=zh (bZ.of (X:=b11 :: aL L ah) (w0:=wD) e15 (hT k15 (by decide) (by decide)));have Z3:=zh (bZ.of (X:=b11 :: aL L ah) (w0:=wD) e8 (hT k8 (by decide) (by decide)));have Z4:=zh (bZ.of (X:=b11 :: aL L ah) (w0:=wD) e3 (hT h3 (by decide) (by decide)));have Z5:=zh (bZ.of (X:=b11 :: aL L ah) (w0:=wD) d0 (hZ bb Sz));have gK:=zh (aaS g hg hq hn1 hn2 jJ hb1 hb2 (by omega) (by omega) (c:=c) (hrow.kept bz (by simp)) hal ho);rw [← ht] at gK ho hX ⊢;have HX:=zh hX;clear hX;have HG:=zh hg;have dL:=zh bz;have SA:=zh k11;have LK:=zh LJ;clear h hg hq hk h13 h15 h8 h11 LJ hrow hal bz hall hown dK h3 hpr hn1 hn2 jJ hmem hpl hb1 hb2 hp1 hp2 Sz hZ hT k13 k15 k8 k11 ht
 go_enter Tryz.func66,Tryz.ntmps66
 go_wp2_with fail;refine y7 mV (b11 :: aL L ah) rfl (by kernel_rfl) ?_;rw [← aI];clear aI;have hS:ae (b11 :: aL L ah) wD wD:=ae.refl _ _
 repeat ((with_reducible show dY _ _ _ _ _ _ _ _ _);(first|refine iG ?_|refine iU rfl ?_|refine iV rfl rfl (by kernel_rfl) (fun _ _=>?_)|refine iW rfl rfl rfl (by first|exact Z1.out|exact Z2.out|exact Z3.out|exact Z4.out|exact Z5.out) (by assumption) (fun _ _=>?_));go_wp2_with fail)
 refine l6 rfl rfl (fun K Q hK hQ=>?_);go_wp2_with fail;refine gK.out.mono ?_;rintro e w2 ⟨bU,hm,hc,hres⟩;have bD:=zh hm;have aD:=zh hc;have vD:=zh (show ae (b11 :: aL L ah) wD w2 from hc.mono (fun x hx=>.inl (List.mem_cons_of_mem _ (by simpa using hx))));have LM:=zh (SA.out.kept hc (by simpa using LK.out.1));cases tgt with
 | stuck=>exact absurd rfl ho
 | stop way s2=>
  obtain⟨⟨older,hol,rfl⟩,d',hg⟩:=hres;have HG2:=zh hg;clear hm hc hg hS;refine hQ _ _ _ (fun a' ha=>?_);refine⟨ha,?_⟩;exact aj.after (aj.ended bD.out (by simpa using aD.out) HG2.out (ae.refl _ _) ⟨older,hol,rfl⟩) dL.out
 | ok v s2=>
  obtain⟨rfl,hg⟩:=hres;have hXX:=HX.out v s2 rfl;subst hXX;have HG2:=zh hg;have y0:=LM.out.cell 0 _ rfl;have f0:=LM.out.frozen 0;clear hm hc hg hS;go_wp2_with fail;refine⟨vD.out,?_⟩;have hS:=vD.out
  repeat ((with_reducible show dY _ _ _ _ _ _ _ _ _);(first|refine iG ?_|refine iU rfl ?_|refine iV rfl rfl (by kernel_rfl) (fun _ _=>?_)|refine iW rfl rfl rfl (by first|exact Z1.out|exact Z2.out|exact Z3.out|exact Z4.out|exact Z5.out) (by assumption) (fun _ _=>?_));go_wp2_with fail)
  refine l6 rfl rfl (fun K Q hK hQ=>?_);clear hS;obtain⟨w3,hw3⟩ : ∃ x,w2.setCell ⟨b11,0,none⟩ (num v)=x:=⟨_,rfl⟩
  have hc3:ae [b11] w2 w3:=by rw [← hw3];exact ae.set1 _ _ _ _
  have hb3:ag w3 b11 #[num v] bO:=by rw [← hw3];simpa using LM.out.set 0 (num v)
  have bG:=zh hc3;have HB3:=zh hb3;clear hc3 hb3;go_wp2_with fail;refine⟨vD.out.then (bG.out.mono (fun x hx=>.inl (by simp at hx;simp [hx]))),?_⟩;refine iG ?_;go_wp2_with fail;refine bodyPost_end (results_none rfl _ _ _) rfl ?_;have hnm:=lH (L:=L) bD.out SA.out.lt LK.out.1;have hR:aj wD L 0 ah [b11] (fun w' n e=>e = .returned (.tuple #[])∧ag w' b11 #[num n] bO) (O.ok v s2) (.returned (.tuple #[])) w3:=⟨bU,bD.out,(aD.out.mono (fun x hx=>.inl (by simp at hx;simp [hx]))).then (bG.out.mono (fun x hx=>.inl (by simp at hx;simp [hx]))),⟨rfl,HB3.out⟩,HG2.out.aside bG.out (fun x hx=>by simp at hx;subst hx;exact⟨hnm,LK.out.2⟩)⟩;exact hR.after dL.out
end Go.Proofs.YtechofppmnnomaaGreatDoor
namespace Go.Proofs.YtechofppmnnomaaGreatDoor
open Go Go.RowKit Go.Mq Go.Mq.Tree Go.Mq.Sym Go.Mq.Check Go.Mq.Run
set_option maxRecDepth 100000
set_option maxHeartbeats 2000000
theorem ach (x:aX) (n:List UInt8) (pos:Int) (a1:Option Addr) (k1:Nat) (a2:Option Addr) (n2 k2:Nat) (a3:Option Addr) (n3 k3:Nat) (b0:Nat) (w:World) (hx : w.cell? ⟨b0,0,none⟩=some (str n)) :
  Calls Tryz.prog 65 #[.agg #[str x.name,.int .i64 pos,.bool x.seen,.slice a1 x.params.length k1,.slice a2 n2 k2,.slice a3 n3 k3],ptr b0] w (fun e w'=>e = .returned (.bool (x.name == n && x.seen))∧ae [] w w'):=by
 have hx':=((ae.refl [] w).alloc (.cells #[str x.name,.int .i64 pos,.bool x.seen,.slice a1 x.params.length k1,.slice a2 n2 k2,.slice a3 n3 k3] 72)).aH hx (by simp);have n0 : b0≠w.heap.size:=by have:=lt_of_cell hx;simp at this;omega
 have z:=ag.new w #[str x.name,.int .i64 pos,.bool x.seen,.slice a1 x.params.length k1,.slice a2 n2 k2,.slice a3 n3 k3] 72;have z0:=z.cell 0 _ rfl;have z2:=z.cell 2 _ rfl;clear hx z;obtain⟨sb,hsb⟩ : ∃ b,b=x.seen:=⟨_,rfl⟩
 rw [← hsb] at z2 z0 hx' ⊢;clear hsb;cases hq : (x.name == n) <;> cases sb
 all_goals
  go_enter Tryz.func65,Tryz.ntmps65
  go_wp2_with fail
  all_goals go_ret
  all_goals exact⟨rfl,(ae.refl _ _).alloc _⟩
theorem aci (l:List aX) (hl : l.length≤1000) (n:List UInt8) (b0:Nat) (F:Nat→Prop) (v:Value) (w:World) (h:pX w F l v) (hx : w.cell? ⟨b0,0,none⟩=some (str n)) :
  Calls Tryz.prog 57 #[v,.func (.func 65) #[] #[ptr b0]] w (fun e w'=>ik l (fun g=>g.name == n && g.seen) e∧ae [] w w'):=
 F7 #[ptr b0] 65 (fun _ _=>rfl) l hl _ F v w h (fun x _ pos a1 k1 a2 n2 k2 a3 n3 k3 w' hc=>ach x n pos a1 k1 a2 n2 k2 a3 n3 k3 b0 w' (hc.aH hx (by simp)))
end Go.Proofs.YtechofppmnnomaaGreatDoor
