/- Some texts in one. -/
import Derived.Test.YtechofppmnnomaaGreatDoorG5
import Derived.Test.YtechofppmnnomaaGreatDoorG20
import Derived.Test.YtechofppmnnomaaGreatDoorG24
import Derived.Test.YtechofppmnnomaaGreatDoorG25
namespace Go.Mq.Run
open Go Go.RowKit Go.Mq Go.Mq.Tree Go.Mq.Sym
open Go.Mq.Check (FewM FewS FewE argsN few_mod check Out)
open Go.Mq.Plan (MapIs getM putM)
open Go.Mq.Used (cntP cntS cntM_le)
structure Wd where
 M:Ms
 vs:Vs
 order:List Nm
def Wd.zero:Wd:=⟨fun _=>none,fun _ _=>none,[]⟩
structure GoodM (m:Mod):Prop where
 few:FewM m
 wf:WFM m
 cnt : cntP m.procs + cntS m.body≤1000
theorem good_of {t:List UInt8} {m:Mod} (ht : t.length≤1000) (h : parse t = .ok m):GoodM m:=by
 obtain⟨hw,hk⟩:=parse_sp h;exact⟨few_mod ht h,hw,by have:=cntM_le m;omega⟩
def setM (M:Ms) (m:Mod):Ms:=fun q=>if q=m.name then some m else M q
def startV (vs:Vs) (m:Mod):Vs:=fun q n=>if q=m.name then startF m.vars n else vs q n
def loadW (g:Nat) (W:Wd) (m:Mod) (fuel:Nat):Option (Wd × Nat × List Int × Out):=
 if (W.M m.name).isSome then some (W,0,[],.plain 9)
 else match check m (seenOf W.M) with
  | .fine=>if W.order.length=10 then some (W,0,[],.plain 12) else
   match (fns (setM W.M m) g).b 0 m.name [] m.body ⟨fuel,[],startV W.vs m⟩ with
   | .stuck=>none
   | .ok _ s=>some (⟨setM W.M m,s.vs,W.order ++ [m.name]⟩,1,s.out,.fine)
   | .stop way s=>some (⟨setM W.M m,s.vs,W.order ++ [m.name]⟩,way,s.out,.fine)
  | o=>some (W,0,[],o)
theorem Home.keptZ {w w':World} {L:Lay} {vs:Vs} {Z:List Nat} (h:Home w L vs) (hc:Chg Z w w') (hZ : ∀ x∈Z,¬ L.Fix x∧x∉L.arrs):Home w' L vs:=
 ⟨fun br hb=>h.lay br (by have:=hc.size;omega),h.stat.kept hc (fun x hx=>(hZ x hx).1),h.dyn.kept hc (fun q n b k hd hm=>(hZ b hm).2 (((h.lay w.heap.size (Nat.le_refl _)).arr hd).1)),fun {b} hb=>by
  obtain⟨cs,f,hh⟩:=h.arrc hb;exact⟨cs,f,by rw [hc.block _ (Array.getElem?_eq_some_iff.1 hh).1 (fun hm=>(hZ b hm).2 hb)];exact hh⟩⟩
def OrdAt (w:World) (Own G:Nat→Prop) (bw:Nat) (W:Wd) (L:Lay) (bp:Nat) (ov:Value) (pes:List (Nm × Value)):Prop:=Blk w bw #[.map (some bp),ov] 40∧w.ownsRow 0 9 1 ov W.order.length (W.order.map str)∧MapIs w bp pes∧(∀ g∈blk ov,L.Fix g∧Own g)∧L.Fix bp∧Own bp ∧ ∀ q,match W.M q with
  | none=>getM pes q=none
  | some m=>getM pes q=some (ptr (L.pb q))∧Own (L.pb q) ∧ ∃ bv,(Own bv∧L.Fix bv∧bv≠bp ∧ ∃ es,MapIs w bv es)∧PartAt w (fun x=>L.Fix x∧(G x∨x=L.pb q∨x=bv)) m (L.dim q) (L.pb q)
structure Has (w:World) (Own G:Nat→Prop) (bw:Nat) (W:Wd) (L:Lay):Prop where
 bw_:L.bw=bw
 M:L.M=W.M
 fix : ∀ x,L.Fix x→Own x∨G x
 arrs : ∀ x,x∈L.arrs→Own x
 home:Home w L W.vs
 order : ∃ bp ov pes,OrdAt w Own G bw W L bp ov pes
 inj : ∀ q q',(W.M q).isSome→(W.M q').isSome→L.pb q=L.pb q'→q=q'
structure WAt (w:World) (Own G:Nat→Prop) (bw:Nat) (W:Wd):Prop where
 own:Own bw
 lt : ∀ x,Own x∨G x→x < w.heap.size
 dis : ∀ x,Own x→¬ G x
 good : ∀ q m,W.M q=some m→GoodM m∧m.name=q
 few:W.order.length≤10
 at_ : (W=Wd.zero∧Blk w bw #[.map none,nils] 40) ∨ ∃ L,Has w Own G bw W L
theorem OrdAt.sep {w:World} {Own G:Nat→Prop} {bw:Nat} {W:Wd} {L:Lay} {bp:Nat} {ov:Value} {pes:List (Nm × Value)} (h:OrdAt w Own G bw W L bp ov pes) : bw≠bp∧bw∉blk ov∧bp∉blk ov:=by
 obtain⟨h1,h2,⟨arr,clock,h3,_⟩,_⟩:=h
 unfold Blk at h1
 refine⟨(fun e=>by rw [e,h3] at h1;cases h1),fun hm=>?_,fun hm=>?_⟩
 ·rcases h2.2 with⟨rfl,_⟩|⟨g,cap,cur,rfl,_,hg,_⟩
  ·cases hm
  ·simp [blk] at hm;subst hm;rw [h1] at hg;simp at hg
 ·rcases h2.2 with⟨rfl,_⟩|⟨g,cap,cur,rfl,_,hg,_⟩
  ·cases hm
  ·simp [blk] at hm;subst hm;rw [h3] at hg;cases hg
theorem OrdAt.other {w:World} {Own G:Nat→Prop} {bw:Nat} {W:Wd} {L:Lay} {bp:Nat} {ov:Value} {pes:List (Nm × Value)} (h:OrdAt w Own G bw W L bp ov pes) {b:Nat} {cs:Array Value} {t:TypeId} (hb:Blk w b cs t) (ht : t≠9) : b≠bp∧b∉blk ov:=by
 obtain⟨_,h2,⟨arr,clock,h3,_⟩,_⟩:=h
 unfold Blk at hb
 refine⟨(fun e=>by rw [e,h3] at hb;cases hb),fun hm=>?_⟩;rcases h2.2 with⟨rfl,_⟩|⟨g,cap,cur,rfl,_,hg,_⟩
 ·cases hm
 ·simp [blk] at hm;subst hm;rw [hb] at hg;cases hg;exact ht rfl
theorem OrdAt.keptF {w w':World} {Own G:Nat→Prop} {bw:Nat} {W:Wd} {L:Lay} {bp:Nat} {ov:Value} {pes:List (Nm × Value)} {Z:List Nat} (h:OrdAt w Own G bw W L bp ov pes) (hbw:L.Fix bw) (hc:Chg Z w w') (hZ : ∀ x∈Z,¬ L.Fix x):OrdAt w' Own G bw W L bp ov pes:=by
 obtain⟨h1,h2,h3,h4,h5,h6,h7⟩:=h;refine⟨h1.kept hc (fun hm=>hZ bw hm hbw),owns_kept h2 hc (fun g hg hm=>hZ g hm (h4 g hg).1),h3.kept hc (fun hm=>hZ bp hm h5),h4,h5,h6,fun q=>?_⟩;have:=h7 q;cases hq:W.M q with
 | none=>rw [hq] at this;exact this
 | some m=>
  rw [hq] at this;obtain⟨a1,a2,bv,⟨a3,a4,a6,es,a7⟩,a5⟩:=this;exact⟨a1,a2,bv,⟨a3,a4,a6,es,a7.kept hc (fun hm=>hZ bv hm a4)⟩,a5.kept hc (fun x hx hf=>hZ x hx hf.1)⟩
theorem Has.keptF {w w':World} {Own G:Nat→Prop} {bw:Nat} {W:Wd} {L:Lay} {Z:List Nat} (h:Has w Own G bw W L) (hc:Chg Z w w') (hZ : ∀ x∈Z,¬ L.Fix x∧x∉L.arrs):Has w' Own G bw W L:=by
 obtain⟨bp,ov,pes,h1,h2,h3,h4,h5,h6,h7⟩:=h.order;have hbw:L.Fix bw:=by rw [← h.bw_];exact h.home.stat.own
 refine⟨h.bw_,h.M,h.fix,h.arrs,h.home.keptZ hc hZ,⟨bp,ov,pes,h1.kept hc (fun hm=>(hZ bw hm).1 hbw),owns_kept h2 hc (fun g hg hm=>(hZ g hm).1 (h4 g hg).1),h3.kept hc (fun hm=>(hZ bp hm).1 h5),h4,h5,h6,fun q=>?_⟩,h.inj⟩;have:=h7 q;cases hq:W.M q with
 | none=>rw [hq] at this;exact this
 | some m=>
  rw [hq] at this;obtain⟨a1,a2,bv,⟨a3,a4,a6,es,a7⟩,a5⟩:=this;exact⟨a1,a2,bv,⟨a3,a4,a6,es,a7.kept hc (fun hm=>(hZ bv hm).1 a4)⟩,a5.kept hc (fun x hx hf=>(hZ x hx).1 hf.1)⟩
theorem Has.kept {w w':World} {Own G:Nat→Prop} {bw:Nat} {W:Wd} {L:Lay} {Z:List Nat} (h:Has w Own G bw W L) (hc:Chg Z w w') (hZ : ∀ x∈Z,¬ Own x∧¬ G x):Has w' Own G bw W L:=
 h.keptF hc fun x hx=>⟨fun hf=>by
  rcases h.fix x hf with h1|h1
  ·exact(hZ x hx).1 h1
  ·exact(hZ x hx).2 h1,fun ha=>(hZ x hx).1 (h.arrs x ha)⟩
theorem Has.went {w w':World} {Own G:Nat→Prop} {bw:Nat} {W:Wd} {L:Lay} {Z:List Nat} {vs:Vs} (h:Has w Own G bw W L) (hh:Home w' L vs) (hc:Chg Z w w') (hZ : ∀ x∈Z,¬ L.Fix x):Has w' Own G bw { W with vs:=vs } L:=by
 obtain⟨bp,ov,pes,h1,h2,h3,h4,h5,h6,h7⟩:=h.order;have hbw:L.Fix bw:=by rw [← h.bw_];exact h.home.stat.own
 refine⟨h.bw_,h.M,h.fix,h.arrs,hh,⟨bp,ov,pes,h1.kept hc (fun hm=>(hZ bw hm) hbw),owns_kept h2 hc (fun g hg hm=>(hZ g hm) (h4 g hg).1),h3.kept hc (fun hm=>(hZ bp hm) h5),h4,h5,h6,fun q=>?_⟩,h.inj⟩;have:=h7 q
 show match W.M q with|none=>_|some m=>_
 cases hq:W.M q with
 | none=>rw [hq] at this;exact this
 | some m=>
  rw [hq] at this;obtain⟨a1,a2,bv,⟨a3,a4,a6,es,a7⟩,a5⟩:=this;exact⟨a1,a2,bv,⟨a3,a4,a6,es,a7.kept hc (fun hm=>hZ bv hm a4)⟩,a5.kept hc (fun x hx hf=>(hZ x hx) hf.1)⟩
theorem WAt.kept {w w':World} {Own G:Nat→Prop} {bw:Nat} {W:Wd} {Z:List Nat} (h:WAt w Own G bw W) (hc:Chg Z w w') (hZ : ∀ x∈Z,¬ Own x∧¬ G x):WAt w' Own G bw W:=
 ⟨h.own,fun x hx=>by have:=h.lt x hx;have:=hc.size;omega,h.dis,h.good,h.few,by
  rcases h.at_ with⟨h1,h2⟩|⟨L,h1⟩
  ·exact .inl ⟨h1,h2.kept hc (fun hm=>(hZ bw hm).1 h.own)⟩
  ·exact .inr ⟨L,h1.kept hc hZ⟩⟩
def ErrV (w:World) (o:Out) (v:Value):Prop:=match o with
 | .fine=>v = .nilIface
 | .plain n=>v = .iface 46 (.int .i64 n)
 | .at_ en p=>∃ b,v = .iface 140 (ptr b)∧Blk w b #[.int .i64 en,.int .i64 p] 142
def ChgO (Own:Nat→Prop) (w w':World):Prop:=∃ Z,Chg Z w w' ∧ ∀ x∈Z,Own x
theorem ChgO.of {Own:Nat→Prop} {w w':World} (h:Chg [] w w'):ChgO Own w w':=⟨[],h,by simp⟩
def More (Own:Nat→Prop) (w w':World):Nat→Prop:=fun x=>Own x∨(w.heap.size≤x∧x < w'.heap.size)
theorem WAt.parts {w:World} {Own G:Nat→Prop} {bw:Nat} {W:Wd} (h:WAt w Own G bw W) : ∃ L:Lay,L.bw=bw∧L.M=W.M∧(∀ x,L.Fix x→x < w.heap.size)∧Parts w L:=by
 rcases h.at_ with⟨rfl,h2⟩|⟨L,h1⟩
 ·exact⟨⟨fun _=>False,fun _=>none,fun _ _=>none,fun _=>0,bw,0,[]⟩,rfl,rfl,fun x hx=>hx.elim,.inl ⟨rfl,h2⟩⟩
 ·exact⟨L,h1.bw_,h1.M,fun x hx=>h.lt x (h1.fix x hx),.inr h1.home.stat⟩
end Go.Mq.Run
namespace Go.Proofs.YtechofppmnnomaaGreatDoor
open Go Go.RowKit Go.Mq Go.Mq.Tree Go.Mq.Sym Go.Mq.Run
theorem seen_world {w:World} {Own G:Nat→Prop} {bw:Nat} {W:Wd} (h:WAt w Own G bw W) :
  Calls Tryz.prog 38 #[ptr bw] w (fun e w'=>∃ v,e = .returned v∧Check.SeenAt w' (New w w') (seenOf W.M) v∧Chg [] w w'):=by
 obtain⟨L,rfl,hM,hf,hp⟩:=h.parts;rw [← hM];exact seen_any L w hp hf (fun q m hm=>by
  rw [hM] at hm;have:=(h.good q m hm).1.wf;exact⟨this.fewv,this.fewp⟩)
end Go.Proofs.YtechofppmnnomaaGreatDoor
namespace Go.Mq.Run
open Go Go.RowKit Go.Mq Go.Mq.Tree
def doneO (o:O (Fl × Fr)):O Unit:=o.bind fun _ s=>.ok () s
end Go.Mq.Run
namespace Go.Proofs.YtechofppmnnomaaGreatDoor
open Go Go.RowKit Go.Mq Go.Mq.Tree Go.Mq.Run
open Go.Mq.Check (FewM FewS FewE argsN)
set_option maxRecDepth 100000
set_option maxHeartbeats 4000000
theorem lcatch_idle (w:World):CallsD Tryz.prog 42 #[] .returning w fun e u' w'=>e = .returned (.tuple #[])∧u' = .returning∧w'=w:=by
 refine callsD_of_wpS Tryz.func42 rfl fun c₀ cs hu=>?_
 simp only [Tryz.ntmps42,List.size_toArray,List.length_cons,List.length_nil,Nat.reduceAdd,Nat.reduceSub,Array.replicate_succ,Array.replicate_zero,List.push_toArray,List.append_toArray,List.nil_append,List.cons_append]
 apply wpS_seq
 apply wpS_region
 simp [wpOpsS,go_sem,recoverD,hu,Exit.thenS]
 refine wpS_of_wp ?_;go_wp2_with fail;exact⟨rfl,.returning,by cases c₀;simp_all,.tuple #[],results_none rfl _ _ _,rfl,rfl,rfl⟩
theorem lcatch_ret (n:Int) (w:World):CallsD Tryz.prog 42 #[] (.panicking [{ v:=retV n,recovered:=false }]) w fun e u' w'=>e = .returned (.tuple #[])∧u' = .panicking [{ v:=retV n,recovered:=true }]∧Chg [] w w':=by
 have hta : ∀ w,(Instr.typeAssert (retV n) 20 106 true).run Tryz.prog w = .ok (.tuple #[.agg #[num n],.bool true]) w:=fun _=>rfl
 obtain⟨wX,hwX⟩ : ∃ x,w.alloc (.cells #[num 0] 106)=x:=⟨_,rfl⟩
 have hx:=Blk.new w #[num 0] 106;rw [hwX] at hx;have hcX:Chg [] w wX:=by rw [← hwX];exact(Chg.refl _ _).alloc _
 have x0:=hx.cell 0 _ rfl;have xf:=hx.frozen 0;have HC:=zh (show Chg [] w (wX.setCell ⟨w.heap.size,0,none⟩ (num n)) from hcX.trans (Chg.set1 _ _ _ _) (fun x hx=>.inr (by simp at hx;omega)));clear hx hcX;refine callsD_of_wpS Tryz.func42 rfl fun c₀ cs hu=>?_
 simp only [Tryz.ntmps42,List.size_toArray,List.length_cons,List.length_nil,Nat.reduceAdd,Nat.reduceSub,Array.replicate_succ,Array.replicate_zero,List.push_toArray,List.append_toArray,List.nil_append,List.cons_append]
 apply wpS_seq
 apply wpS_region
 simp [wpOpsS,go_sem,recoverD,hu,Exit.thenS]
 refine wpS_of_wp ?_;go_wp2_with fail;exact⟨rfl,.panicking [{ v:=retV n,recovered:=true }],rfl,.tuple #[],results_none rfl _ _ _,rfl,rfl,HC.out⟩
theorem lcatch_end (way:Nat) (older:List PanicEntry) (w:World):CallsD Tryz.prog 42 #[] (.panicking ({ v:=endV way,recovered:=false } :: older)) w fun e u' w'=>
   e = .panicked [{ v:=endV way,recovered:=false }]∧u' = .panicking ({ v:=endV way,recovered:=true } :: older)∧Chg [] w w':=by
 have hta : ∀ w,(Instr.typeAssert (endV way) 20 106 true).run Tryz.prog w = .ok (.tuple #[.agg #[num 0],.bool false]) w:=fun _=>rfl
 obtain⟨wX,hwX⟩ : ∃ x,w.alloc (.cells #[num 0] 106)=x:=⟨_,rfl⟩
 have hx:=Blk.new w #[num 0] 106;rw [hwX] at hx;have hcX:Chg [] w wX:=by rw [← hwX];exact(Chg.refl _ _).alloc _
 have x0:=hx.cell 0 _ rfl;have xf:=hx.frozen 0;have HC:=zh (show Chg [] w (wX.setCell ⟨w.heap.size,0,none⟩ (num 0)) from hcX.trans (Chg.set1 _ _ _ _) (fun x hx=>.inr (by simp at hx;omega)));clear hx hcX;refine callsD_of_wpS Tryz.func42 rfl fun c₀ cs hu=>?_
 simp only [Tryz.ntmps42,List.size_toArray,List.length_cons,List.length_nil,Nat.reduceAdd,Nat.reduceSub,Array.replicate_succ,Array.replicate_zero,List.push_toArray,List.append_toArray,List.nil_append,List.cons_append]
 apply wpS_seq
 apply wpS_region
 simp [wpOpsS,go_sem,recoverD,hu,Exit.thenS]
 refine wpS_of_wp ?_;go_wp2_with fail;exact⟨rfl,.panicking ({ v:=endV way,recovered:=true } :: older),rfl,rfl,rfl,HC.out⟩
theorem load_does (g:Nat) {L:Lay} {q:Nm} {m:Mod} {s:St} {w:World} {vb:Value} {b11 b4:Nat} {c0 c1 c2 c3:Value} (h:Going w L 0 s nils) (hq:L.M q=some m) (hb:SlAt w L.Fix m.body vb) (hfs:FewS m.body) (hfl : m.body.len≤1000) (h11 : w.cell? ⟨b11,0,none⟩=some (ptr (L.pb q))) (h4:Blk w b4 #[c0,c1,c2,c3,vb] 32) (ho : (fns L.M g).b 0 q [] m.body s ≠ .stuck) :
  Calls Tryz.prog 41 #[ptr L.br,ptr b11,ptr b4] w (Ran w L 0 nils [] (fun _ _ e=>e = .returned (.tuple #[])) (doneO ((fns L.M g).b 0 q [] m.body s))):=by
 obtain⟨ab,cb,cs,rfl,_,_,_⟩:=id hb;have HCON:=zh (con_b g h hq (.inl ⟨rfl,rfl⟩ : FrAt w none []) (fun b hb=>by cases hb) hb hfs hfl ho);have d4:=h4.cell 4 _ rfl;obtain⟨tgt,ht⟩ : ∃ o,o=(fns L.M g).b 0 q [] m.body s:=⟨_,rfl⟩
 rw [← ht] at HCON ho ⊢;obtain⟨tg,htg⟩ : ∃ o,o=doneO tgt:=⟨_,rfl⟩
 rw [← htg];have HTG:=zh htg;clear h hq hb hfs hfl h4 ht htg
 go_enter_defers Tryz.func41,Tryz.ntmps41
 go_wp2_with fail;refine HCON.out.mono ?_;rintro e w1 ⟨ov',hm,hc,hres⟩;have HM:=zh hm;have HC:=zh hc;cases tgt with
 | stuck=>exact absurd rfl ho
 | stop way s2=>
  obtain⟨⟨older,hol,rfl⟩,d',hg⟩:=hres;have HG:=zh hg;have HOL:=zh hol;clear hm hc hg hol;go_wp2_with fail;refine leaves_cons (f:=42) (args:=#[]) (by simp) (by simp [go_sem]) ?_;refine(lcatch_end way older w1).mono ?_;rintro e u' w'' ⟨rfl,rfl,hc⟩
  show Ran w L 0 nils [] _ tg _ w''
  rw [HTG.out];exact⟨ov',HM.out,by simpa using HC.out.then hc.weak,⟨_ :: older,by simp [HOL.out],rfl⟩,d',HG.out.kept hc⟩
 | ok x s2=>
  obtain⟨fl,fr2⟩:=x;obtain⟨⟨_,hfl⟩,hg⟩:=hres;have HG:=zh hg;clear hm hc hg;cases fl with
  | go=>
   simp only at hfl;subst hfl;go_wp2_with fail;refine leaves_cons (f:=42) (args:=#[]) (by simp) (by simp [go_sem]) ?_;refine(lcatch_idle w1).mono ?_;rintro e u' w'' ⟨rfl,rfl,rfl⟩;refine⟨.tuple #[],results_none rfl _ _ _,?_⟩;rw [HTG.out];exact⟨ov',HM.out,by simpa using HC.out,rfl,HG.out⟩
  | ret n=>
   simp only at hfl;subst hfl;go_wp2_with fail;refine leaves_cons (f:=42) (args:=#[]) (by simp) (by simp [go_sem]) ?_;refine(lcatch_ret n w1).mono ?_;rintro e u' w'' ⟨rfl,rfl,hc⟩;refine⟨.tuple #[],results_none rfl _ _ _,?_⟩;rw [HTG.out];exact⟨ov',HM.out,by simpa using HC.out.then hc.weak,rfl,HG.out.kept hc⟩
end Go.Proofs.YtechofppmnnomaaGreatDoor
namespace Go.Mq.Run
open Go Go.RowKit Go.Mq Go.Mq.Tree Go.Mq.Sym
open Go.Mq.Check (FewM FewS FewE argsN)
open Go.Mq.Plan (MapIs getM putM getM_put)
open Go.Proofs.YtechofppmnnomaaGreatDoor (VarsAt)
theorem PartAt.mono {w:World} {F F':Nat→Prop} {m:Mod} {dim:Nm→Option (Nat × Nat)} {bq:Nat} (h:PartAt w F m dim bq) (hF : ∀ x,F x→F' x):PartAt w F' m dim bq:=by
 obtain⟨h1,h2,ai,ci,av,cv,ap,cp,ab,cb,bv,es,h3,h4,h5,h6,h7⟩:=h;exact⟨hF _ h1,h2,ai,ci,av,cv,ap,cp,ab,cb,bv,es,h3,h4.mono hF,hF _ h5,h6,h7⟩
theorem Has.zero {w:World} {Own G:Nat→Prop} {bw bp:Nat} (h1:Blk w bw #[.map (some bp),nils] 40) (h2:MapIs w bp []) (hw:Own bw) (hp:Own bp) :
  Has w Own G bw Wd.zero ⟨fun x=>x=bw∨x=bp,fun _=>none,fun _ _=>none,fun _=>0,bw,0,[]⟩:=by
 have hlay : ∀ br,w.heap.size≤br→LayOk ⟨fun x=>x=bw∨x=bp,fun _=>none,fun _ _=>none,fun _=>0,bw,br,[]⟩:=fun br hb=>by
  refine⟨(fun h=>by cases h),(fun h=>by cases h),(fun h=>by cases h),(fun {x} hx=>?_),(fun h=>by cases h)⟩;have:=h1.lt;have:=h2.lt
  show x < br
  rcases hx with rfl|rfl <;> omega
 have hst:Stat w ⟨fun x=>x=bw∨x=bp,fun _=>none,fun _ _=>none,fun _=>0,bw,0,[]⟩:=⟨.inl rfl,bp,[],nils,h1,.inr rfl,h2,fun q=>rfl⟩;refine⟨rfl,rfl,fun x hx=>?_,(fun x hx=>by cases hx),⟨hlay,hst,fun q n=>rfl,(fun hb=>by cases hb)⟩,⟨bp,nils,[],h1,⟨rfl,.inl ⟨rfl,rfl⟩⟩,h2,(fun g hg=>by cases hg),.inr rfl,hp,fun q=>rfl⟩,(fun q _ hq=>by cases hq)⟩;rcases hx with rfl|rfl
 ·exact .inl hw
 ·exact .inl hp
theorem VarsAt_keptZ {w w':World} {lo b:Nat} {l:List Glob} {dim:Nm→Option (Nat × Nat)} {arrs:List Nat} {Z:List Nat} (h:VarsAt w lo b l dim arrs) (hc:Chg Z w w') (hZ : ∀ x∈Z,x < lo) (hb : lo≤b):VarsAt w' lo b l dim arrs:=by
 obtain⟨es,h1,h2⟩:=h.map;refine⟨⟨es,h1.kept hc (fun hm=>by have:=hZ _ hm;omega),h2⟩,h.inj,h.arr,fun ha=>?_,fun n=>?_⟩
 ·obtain⟨h3,h4,k,h5⟩:=h.low ha
  exact⟨h3,by have:=hc.size;omega,k,h5.kept hc (fun hm=>by have:=hZ _ hm;omega)⟩
 ·have:=h.is n
  cases hd : dim n with
  | none=>rw [hd] at this;exact this
  | some x=>
   rw [hd] at this;have hx:=(h.low (h.arr (show dim n=some (x.1,x.2) from hd)).1).1;exact⟨this.1,this.2.kept hc (fun hm=>by have:=hZ _ hm;omega)⟩
theorem Has.mono {w:World} {Own Own' G:Nat→Prop} {bw:Nat} {W:Wd} {L:Lay} (h:Has w Own G bw W L) (hO : ∀ x,Own x→Own' x):Has w Own' G bw W L:=by
 obtain⟨bp,ov,pes,g1,g2,g3,g4,g5,g6,g7⟩:=h.order;refine⟨h.bw_,h.M,fun x hx=>(h.fix x hx).imp (hO x) id,fun x hx=>hO x (h.arrs x hx),h.home,⟨bp,ov,pes,g1,g2,g3,fun g hg=>⟨(g4 g hg).1,hO g (g4 g hg).2⟩,g5,hO _ g6,fun q=>?_⟩,h.inj⟩;have:=g7 q;cases hq:W.M q with
 | none=>rw [hq] at this;exact this
 | some m=>
  rw [hq] at this;obtain⟨a1,a2,bv,⟨a3,a4⟩,a5⟩:=this;exact⟨a1,hO _ a2,bv,⟨hO _ a3,a4⟩,a5⟩
def Lay.more (L:Lay) (m:Mod) (Gm:Nat→Prop) (lo hi t b:Nat) (dim:Nm→Option (Nat × Nat)) (arrs:List Nat):Lay:=
 ⟨fun x=>L.Fix x∨Gm x∨(lo≤x∧x < hi∧x∉arrs∧x≠t),setM L.M m,fun q=>if q=m.name then dim else L.dim q,fun q=>if q=m.name then b else L.pb q,L.bw,L.br,L.arrs ++ arrs⟩
theorem Has.more {w wS:World} {Own Own' G Gm:Nat→Prop} {bw:Nat} {W:Wd} {L:Lay} {m:Mod} {lo t b bv bp:Nat} {ov ov':Value} {pes:List (Nm × Value)} {dim:Nm→Option (Nat × Nat)} {arrs:List Nat} {ai av ap ab:Option Addr} {ci cv cp cb:Nat}
  (h:Has w Own G bw W L) (hbw:Own bw) (hdis : ∀ x,Own x→¬ G x∧¬ Gm x) (hlow : ∀ x,Own x∨G x∨Gm x→x < lo) (hlo : lo≤w.heap.size) (hnew:W.M m.name=none) (hfew:FewM m)
  (hor:OrdAt w Own G bw W L bp ov pes)
  (hc:Chg (bw :: bp :: blk ov) w wS)
  (hbS:Blk wS bw #[.map (some bp),ov'] 40) (hpS:MapIs wS bp (putM pes m.name (ptr b)))
  (hoS : wS.ownsRow 0 9 1 ov' (W.order ++ [m.name]).length ((W.order ++ [m.name]).map str)) (hmv:Moved w ov ov')
  (hpart:Blk wS b #[str m.name,.slice ai m.imports.length ci,.slice av m.vars.length cv,.slice ap m.procs.length cp,.slice ab m.body.len cb,.map (some bv)] 102)
  (hmod:ModAt wS Gm m (.agg #[str m.name,.slice ai m.imports.length ci,.slice av m.vars.length cv,.slice ap m.procs.length cp,.slice ab m.body.len cb]))
  (hva:VarsAt wS lo bv m.vars dim arrs) (hlb : lo≤b∧lo≤bv)
  (ht : t≠b∧t≠bv∧t∉blk ov')
  (hO : ∀ x,Own x→Own' x) (hO2 : ∀ x,lo≤x→x < wS.heap.size→Own' x) :
  Has wS Own' (fun x=>G x∨Gm x) bw ⟨setM W.M m,startV W.vs m,W.order ++ [m.name]⟩ (L.more m Gm lo wS.heap.size t b dim arrs):=by
 have hfixlt : ∀ x,L.Fix x→x < lo:=fun x hx=>by
  rcases h.fix x hx with h1|h1
  ·exact hlow x (.inl h1)
  ·exact hlow x (.inr (.inl h1))
 have hs:=hc.size;obtain⟨h1,h2,h3,h4,h5,h6,h7⟩:=hor;have hp:=h3;have hLbw:L.Fix bw:=by rw [← h.bw_];exact h.home.stat.own
 have hZF : ∀ x∈bw :: bp :: blk ov,L.Fix x∧Own x:=fun x hx=>by
  rcases List.mem_cons.1 hx with rfl|hx
  ·exact⟨hLbw,hbw⟩
  ·rcases List.mem_cons.1 hx with rfl|hx
   ·exact⟨h5,h6⟩
   ·exact h4 x hx
 have hlay:=h.home.lay w.heap.size (Nat.le_refl _);have hal : ∀ x∈L.arrs,¬ L.Fix x∧x < lo∧Own x:=fun x hx=>⟨(hlay.arrs hx).1,hlow x (.inl (h.arrs x hx)),h.arrs x hx⟩
 have hbS':=hpart.lt;have hbvS : bv < wS.heap.size:=by obtain⟨es,hm,_⟩:=hva.map;exact hm.lt
 have hFix : ∀ x,(L.more m Gm lo wS.heap.size t b dim arrs).Fix x↔(L.Fix x∨Gm x∨(lo≤x∧x < wS.heap.size∧x∉arrs∧x≠t)):=fun x=>Iff.rfl
 have hbarr : b∉arrs:=fun hm=>by
  obtain⟨_,_,k,hk⟩:=hva.low hm
  unfold Blk at hk hpart
  rw [hk] at hpart;simp at hpart
  exact absurd hpart.2 (by decide)
 have hvarr : bv∉arrs:=fun hm=>by
  obtain⟨_,_,k,hk⟩:=hva.low hm;obtain⟨es,⟨arr,clock,hmm,_⟩,_⟩:=hva.map
  unfold Blk at hk
  rw [hk] at hmm;cases hmm
 have hold : ∀ q mq,W.M q=some mq→getM pes q=some (ptr (L.pb q))∧Own (L.pb q) ∧ ∃ bv',(Own bv'∧L.Fix bv'∧bv'≠bp ∧ ∃ es,MapIs wS bv' es)∧PartAt wS (fun x=>L.Fix x∧(G x∨x=L.pb q∨x=bv')) mq (L.dim q) (L.pb q):=fun q mq hq=>by
  have:=h7 q;rw [hq] at this;obtain⟨a1,a2,bv',⟨a3,a4,a6,es,a7⟩,a5⟩:=this;have hnv : bv'∉bw :: bp :: blk ov:=fun hm=>by
   obtain⟨arr,clock,hmm,_⟩:=a7;rcases List.mem_cons.1 hm with rfl|hm
   ·unfold Blk at h1;rw [hmm] at h1;cases h1
   ·rcases List.mem_cons.1 hm with h|hm
    ·exact a6 h
    ·rcases h2.2 with⟨rfl,_⟩|⟨g,cap,cur,rfl,_,hg,_⟩
     ·cases hm
     ·simp [blk] at hm;subst hm;rw [hmm] at hg;cases hg
  refine⟨a1,a2,bv',⟨a3,a4,a6,es,a7.kept hc hnv⟩,a5.kept hc (fun x hx hf=>?_)⟩;obtain⟨hx1,hx2⟩:=hZF x hx;rcases hf.2 with hf|rfl|rfl
  ·exact(hdis x hx2).1 hf
  ·obtain⟨_,_,ai,ci,av,cv,ap,cp,ab,cb,bv,es,h3,_⟩:=a5
   unfold Blk at h3
   rcases List.mem_cons.1 hx with h|hm
   ·rw [h] at h3;unfold Blk at h1;rw [h1] at h3;simp at h3
   ·rcases List.mem_cons.1 hm with h|hm
    ·obtain⟨arr,clock,hmm,_⟩:=hp
     rw [h,hmm] at h3;cases h3
    ·rcases h2.2 with⟨rfl,_⟩|⟨g,cap,cur,rfl,_,hg,_⟩
     ·cases hm
     ·simp [blk] at hm;rw [hm,hg] at h3;simp at h3
  ·exact hnv hx
 have hMis : ∀ q,(L.more m Gm lo wS.heap.size t b dim arrs).M q=setM W.M m q:=fun q=>by rw [← h.M];rfl
 have hpn:PartAt wS (fun x=>Gm x∨x=b∨x=bv) m dim b:=by
  obtain⟨es,hm,hes⟩:=hva.map;exact⟨.inr (.inl rfl),hfew,ai,ci,av,cv,ap,cp,ab,cb,bv,es,hpart,hmod.mono (fun x hx=>.inl hx),.inr (.inr rfl),hm,hes⟩
 have hfb : (lo≤b∧b < wS.heap.size∧b∉arrs∧b≠t):=⟨hlb.1,hbS',hbarr,ht.1.symm⟩;have hfv : (lo≤bv∧bv < wS.heap.size∧bv∉arrs∧bv≠t):=⟨hlb.2,hbvS,hvarr,ht.2.1.symm⟩;have hbpS : bp < lo:=hlow _ (.inl h6);have hparts : ∀ q,match setM W.M m q with
   | none=>getM (putM pes m.name (ptr b)) q=none
   | some mq=>getM (putM pes m.name (ptr b)) q=some (ptr ((L.more m Gm lo wS.heap.size t b dim arrs).pb q))∧Own' ((L.more m Gm lo wS.heap.size t b dim arrs).pb q) ∧ ∃ bv',(Own' bv'∧(L.more m Gm lo wS.heap.size t b dim arrs).Fix bv'∧bv'≠bp ∧ ∃ es,MapIs wS bv' es)∧PartAt wS (fun x=>(L.more m Gm lo wS.heap.size t b dim arrs).Fix x∧((G x∨Gm x)∨x=(L.more m Gm lo wS.heap.size t b dim arrs).pb q∨x=bv')) mq ((L.more m Gm lo wS.heap.size t b dim arrs).dim q) ((L.more m Gm lo wS.heap.size t b dim arrs).pb q):=fun q=>by
  by_cases hqm : q=m.name
  ·subst hqm
   have e1 : setM W.M m m.name=some m:=by simp [setM]
   have e2 : (L.more m Gm lo wS.heap.size t b dim arrs).pb m.name=b:=by simp [Lay.more]
   have e3 : (L.more m Gm lo wS.heap.size t b dim arrs).dim m.name=dim:=by simp [Lay.more]
   rw [e1,e2,e3];refine⟨by rw [getM_put,if_pos rfl],hO2 b hlb.1 hbS',bv,⟨hO2 bv hlb.2 hbvS,.inr (.inr hfv),by omega,by obtain⟨es,hm,_⟩:=hva.map;exact⟨es,hm⟩⟩,hpn.mono (fun x hx=>?_)⟩;rcases hx with hx|rfl|rfl
   ·exact⟨.inr (.inl hx),.inl (.inr hx)⟩
   ·exact⟨.inr (.inr hfb),.inr (.inl rfl)⟩
   ·exact⟨.inr (.inr hfv),.inr (.inr rfl)⟩
  ·have e1 : setM W.M m q=W.M q:=by simp [setM,hqm]
   have e2 : (L.more m Gm lo wS.heap.size t b dim arrs).pb q=L.pb q:=by simp [Lay.more,hqm]
   have e3 : (L.more m Gm lo wS.heap.size t b dim arrs).dim q=L.dim q:=by simp [Lay.more,hqm]
   rw [e1,e2,e3];cases hq:W.M q with
   | none=>
    have:=h7 q;rw [hq] at this
    show getM _ q=none
    rw [getM_put,if_neg (Ne.symm hqm)];exact this
   | some mq=>
    obtain⟨a1,a2,bv',⟨a3,a4,a6,a7⟩,a5⟩:=hold q mq hq;exact⟨by rw [getM_put,if_neg (Ne.symm hqm)];exact a1,hO _ a2,bv',⟨hO _ a3,.inl a4,a6,a7⟩,a5.mono (fun x hx=>⟨.inl hx.1,by
     rcases hx.2 with h|h
     ·exact .inl (.inl h)
     ·exact .inr h⟩)⟩
 have hLMnew : ∀ n,L.dim m.name n=none:=fun n=>by
  cases hd:L.dim m.name n with
  | none=>rfl
  | some x=>
   have:=hlay.there (show L.dim m.name n=some (x.1,x.2) from hd);rw [h.M,hnew] at this;cases this
 have hdim : ∀ q n x,(L.more m Gm lo wS.heap.size t b dim arrs).dim q n=some x→(q=m.name∧dim n=some x)∨(q≠m.name∧L.dim q n=some x):=fun q n x hx=>by
  by_cases hqm : q=m.name
  ·exact .inl ⟨hqm,by simpa [Lay.more,hqm] using hx⟩
  ·exact .inr ⟨hqm,by simpa [Lay.more,hqm] using hx⟩
 have hlayS : ∀ br,wS.heap.size≤br→LayOk { L.more m Gm lo wS.heap.size t b dim arrs with br:=br }:=fun br hbr=>by
  have hl:=h.home.lay br (by omega);refine⟨fun {q n a k q' n' k'} h1 h2=>?_,fun {q n a k} h1=>?_,fun {a} ha=>?_,fun {x} hx=>?_,fun {q n a k} h1=>?_⟩
  ·rcases hdim q n _ h1 with⟨e1,d1⟩|⟨e1,d1⟩ <;> rcases hdim q' n' _ h2 with⟨e2,d2⟩|⟨e2,d2⟩
   ·exact⟨by rw [e1,e2],hva.inj d1 d2⟩
   ·have:=(hal a (hlay.arr d2).1).2.1;have:=(hva.low (hva.arr d1).1).1;omega
   ·have:=(hal a (hlay.arr d1).1).2.1;have:=(hva.low (hva.arr d2).1).1;omega
   ·exact hlay.inj d1 d2
  ·rcases hdim q n _ h1 with⟨_,d1⟩|⟨_,d1⟩
   ·obtain⟨h3,h4⟩:=hva.arr d1;exact⟨List.mem_append_right _ h3,h4⟩
   ·obtain⟨h3,h4⟩:=hlay.arr d1;exact⟨List.mem_append_left _ h3,h4⟩
  ·rcases List.mem_append.1 ha with ha|ha
   ·obtain⟨h3,h4,h5'⟩:=hal a ha
    refine⟨fun hf=>?_,by show a < br;omega⟩;rcases (hFix a).1 hf with hf|hf|hf
    ·exact h3 hf
    ·exact(hdis a h5').2 hf
    ·omega
   ·obtain⟨h3,h4,_⟩:=hva.low ha
    refine⟨fun hf=>?_,by show a < br;omega⟩;rcases (hFix a).1 hf with hf|hf|hf
    ·have:=hfixlt a hf;omega
    ·have:=hlow a (.inr (.inr hf));omega
    ·exact hf.2.2.1 ha
  ·show x < br
   rcases (hFix x).1 hx with hf|hf|hf
   ·have:=hfixlt x hf;omega
   ·have:=hlow x (.inr (.inr hf));omega
   ·omega
  ·show (setM L.M m q).isSome
   rcases hdim q n _ h1 with⟨e1,_⟩|⟨e1,d1⟩
   ·simp [setM,e1]
   ·have:=hlay.there d1
    simpa [setM,e1] using this
 have hZd : ∀ q n a k,L.dim q n=some (a,k)→a∉bw :: bp :: blk ov:=fun q n a k hd hm=>(hlay.arrs (hlay.arr hd).1).1 (hZF a hm).1
 have hdynS:Dyn wS (L.more m Gm lo wS.heap.size t b dim arrs).dim (startV W.vs m):=fun q n=>by
  by_cases hqm : q=m.name
  ·have e3 : (L.more m Gm lo wS.heap.size t b dim arrs).dim q=dim:=by simp [Lay.more,hqm]
   have e4 : startV W.vs m q n=startF m.vars n:=by simp [startV,hqm]
   rw [e3,e4];have:=hva.is n;cases hd : dim n with
   | none=>rw [hd] at this;exact this
   | some x=>rw [hd] at this;exact⟨_,this.1,by simp [zeros],this.2⟩
  ·have e3 : (L.more m Gm lo wS.heap.size t b dim arrs).dim q=L.dim q:=by simp [Lay.more,hqm]
   have e4 : startV W.vs m q n=W.vs q n:=by simp [startV,hqm]
   rw [e3,e4];exact(h.home.dyn.kept hc hZd) q n
 have hownS : (L.more m Gm lo wS.heap.size t b dim arrs).Fix bw:=.inl hLbw;have hovS : ∀ g∈blk ov',(L.more m Gm lo wS.heap.size t b dim arrs).Fix g∧Own' g:=fun g hg=>by
  rcases hmv g hg with hm|hm
  ·exact⟨.inl (h4 g hm).1,hO g (h4 g hm).2⟩
  ·have hgS : g < wS.heap.size:=by
    rcases hoS.2 with⟨rfl,_⟩|⟨g',cap,cur,rfl,_,hg',_⟩
    ·cases hg
    ·simp [blk] at hg;subst hg;exact(Array.getElem?_eq_some_iff.1 hg').1
   refine⟨.inr (.inr ⟨by omega,hgS,fun ha=>?_,fun e=>ht.2.2 (by rw [← e];exact hg)⟩),hO2 g (by omega) hgS⟩;obtain⟨_,_,k,hk⟩:=hva.low ha;rcases hoS.2 with⟨rfl,_⟩|⟨g',cap,cur,rfl,_,hg',_⟩
   ·cases hg
   ·simp [blk] at hg;subst hg;unfold Blk at hk;rw [hk] at hg';simp [i64T] at hg'
 refine⟨h.bw_,by funext q;exact hMis q,fun x hx=>?_,fun x hx=>?_,⟨hlayS,⟨by show (L.more m Gm lo wS.heap.size t b dim arrs).Fix L.bw;rw [h.bw_];exact hownS,bp,_,ov',by show Blk wS L.bw _ _;rw [h.bw_];exact hbS,.inl h5,hpS,fun q=>?_⟩,hdynS,fun {a} ha=>?_⟩,⟨bp,ov',_,hbS,hoS,hpS,hovS,.inl h5,hO _ h6,hparts⟩,fun q q' h1 h2 he=>?_⟩
 ·rcases (hFix x).1 hx with hf|hf|hf
  ·rcases h.fix x hf with h1|h1
   ·exact .inl (hO x h1)
   ·exact .inr (.inl h1)
  ·exact .inr (.inr hf)
  ·exact .inl (hO2 x hf.1 hf.2.1)
 ·rcases List.mem_append.1 hx with hx|hx
  ·exact hO x (h.arrs x hx)
  ·obtain⟨h3,h4,_⟩:=hva.low hx
   exact hO2 x h3 h4
 ·have:=hparts q
  rw [← hMis q] at this;cases hq : (L.more m Gm lo wS.heap.size t b dim arrs).M q with
  | none=>rw [hq] at this;exact this
  | some mq=>
   rw [hq] at this;obtain⟨a1,_,bv',_,a5⟩:=this;exact⟨a1,a5.mono (fun x hx=>hx.1)⟩
 ·rcases List.mem_append.1 ha with ha|ha
  ·obtain⟨cs,f,hh⟩:=h.home.arrc ha
   exact⟨cs,f,by rw [hc.block _ (Array.getElem?_eq_some_iff.1 hh).1 (fun hm=>(hal a ha).1 (hZF a hm).1)];exact hh⟩
  ·obtain⟨_,_,k,hk⟩:=hva.low ha
   exact⟨_,_,hk⟩
 ·have hb1 : ∀ q,(W.M q).isSome→L.pb q < lo:=fun q hq=>by
   obtain⟨mq,hmq⟩:=Option.isSome_iff_exists.1 hq;exact hlow _ (.inl (hold q mq hmq).2.1)
  by_cases e1 : q=m.name <;> by_cases e2 : q'=m.name
  ·rw [e1,e2]
  ·have h2' : (W.M q').isSome:=by simpa [setM,e2] using h2
   have:=hb1 q' h2';simp [Lay.more,e1,e2] at he
   omega
  ·have h1' : (W.M q).isSome:=by simpa [setM,e1] using h1
   have:=hb1 q h1';simp [Lay.more,e1,e2] at he
   omega
  ·exact h.inj q q' (by simpa [setM,e1] using h1) (by simpa [setM,e2] using h2) (by simpa [Lay.more,e1,e2] using he)
end Go.Mq.Run
namespace Go.Mq.Run
open Go Go.RowKit Go.Mq Go.Mq.Tree
open Go.Proofs.YtechofppmnnomaaGreatDoor (VarsAt)
def ops11:List Oper:=[
 { dst:=some 50,op:=Op.load 32 (Operand.tmp 4),type:=32,pos := "run.go:97",after:=#[],guard:=none },
 { dst:=some 51,op:=Op.load 32 (Operand.tmp 4),type:=32,pos := "run.go:97",after:=#[],guard:=none },
 { dst:=some 52,op:=Op.call { callee:=Callee.value (Operand.func 39),args:=#[Operand.tmp 51],argTypes:=#[32] },type:=99,pos := "run.go:97",after:=#[{ on:=1,ground:=Ground.data }],guard:=none },
 { dst:=some 53,op:=Op.build 102 #[(0,Operand.tmp 50),(1,Operand.tmp 52)],type:=102,pos := "run.go:97",after:=#[{ on:=0,ground:=Ground.data },{ on:=2,ground:=Ground.data }],guard:=none },
 { dst:=some 54,op:=Op.box 102 (Operand.tmp 53),type:=94,pos := "run.go:97",after:=#[{ on:=3,ground:=Ground.data }],guard:=none },
 { dst:=some 11,op:=Op.alloc 94,type:=0,pos := "run.go:97",after:=#[],guard:=none },
 { dst:=none,op:=Op.store 94 (Operand.tmp 11) (Operand.tmp 54),type:=0,pos := "run.go:97",after:=#[{ on:=5,ground:=Ground.data },{ on:=4,ground:=Ground.data },{ on:=2,ground:=Ground.chain },{ on:=0,ground:=Ground.phase },{ on:=1,ground:=Ground.phase },{ on:=2,ground:=Ground.phase },{ on:=3,ground:=Ground.phase },{ on:=4,ground:=Ground.phase },{ on:=5,ground:=Ground.phase }],guard:=none }]
def putS (a0:Act) (x50 x51 x52 x53 x54 x11:Value):Act:={ tmps:=(((((a0.tmps.setIfInBounds 50 x50).setIfInBounds 51 x51).setIfInBounds 52 x52).setIfInBounds 53 x53).setIfInBounds 54 x54).setIfInBounds 11 x11,defers:=a0.defers }
theorem putS_slot (a0:Act) (x50 x51 x52 x53 x54 x11:Value) (h : 54 < a0.tmps.size) :
  (putS a0 x50 x51 x52 x53 x54 x11).eval (.tmp 51)=x51∧(putS a0 x50 x51 x52 x53 x54 x11).eval (.tmp 50)=x50∧(putS a0 x50 x51 x52 x53 x54 x11).eval (.tmp 52)=x52∧(putS a0 x50 x51 x52 x53 x54 x11).eval (.tmp 53)=x53∧(putS a0 x50 x51 x52 x53 x54 x11).eval (.tmp 54)=x54∧(putS a0 x50 x51 x52 x53 x54 x11).eval (.tmp 11)=x11∧(putS a0 x50 x51 x52 x53 x54 x11).eval (.tmp 4)=a0.eval (.tmp 4):=by
 have k0 : 50 < a0.tmps.size:=by omega
 have k1 : 51 < a0.tmps.size:=by omega
 have k2 : 52 < a0.tmps.size:=by omega
 have k3 : 53 < a0.tmps.size:=by omega
 have k4 : 11 < a0.tmps.size:=by omega
 refine⟨?_,?_,?_,?_,?_,?_,?_⟩ <;> simp [putS,Act.eval,Array.getElem?_setIfInBounds,h,k0,k1,k2,k3,k4]
theorem act_eq {t t':Array Value} {d:List Deferred} (h : t=t') : ({ tmps:=t,defers:=d } : Act) = { tmps:=t',defers:=d }:=by rw [h]
theorem putS_put (a0:Act) (x50 x51 x52 x53 x54 x11 y:Value) (h : 54 < a0.tmps.size) :
  (putS a0 x50 x51 x52 x53 x54 x11).put (some 50) y=putS a0 y x51 x52 x53 x54 x11∧(putS a0 x50 x51 x52 x53 x54 x11).put (some 51) y=putS a0 x50 y x52 x53 x54 x11∧(putS a0 x50 x51 x52 x53 x54 x11).put (some 52) y=putS a0 x50 x51 y x53 x54 x11 ∧
  (putS a0 x50 x51 x52 x53 x54 x11).put (some 53) y=putS a0 x50 x51 x52 y x54 x11∧(putS a0 x50 x51 x52 x53 x54 x11).put (some 54) y=putS a0 x50 x51 x52 x53 y x11∧(putS a0 x50 x51 x52 x53 x54 x11).put (some 11) y=putS a0 x50 x51 x52 x53 x54 y:=by
 refine⟨?_,?_,?_,?_,?_,?_⟩ <;>
 ·simp only [putS,Act.put]
  refine act_eq (Array.ext_getElem? ?_);intro k;by_cases e0 : 50=k
  ·subst e0;simp [Array.getElem?_setIfInBounds]
  by_cases e1 : 51=k
  ·subst e1;simp [Array.getElem?_setIfInBounds]
  by_cases e2 : 52=k
  ·subst e2;simp [Array.getElem?_setIfInBounds]
  by_cases e3 : 53=k
  ·subst e3;simp [Array.getElem?_setIfInBounds]
  by_cases e4 : 54=k
  ·subst e4;simp [Array.getElem?_setIfInBounds]
  by_cases e5 : 11=k
  ·subst e5;simp [Array.getElem?_setIfInBounds]
  simp [Array.getElem?_setIfInBounds,e0,e1,e2,e3,e4,e5]
end Go.Mq.Run
namespace Go.Proofs.YtechofppmnnomaaGreatDoor
open Go Go.RowKit Go.Mq Go.Mq.Tree Go.Mq.Sym Go.Mq.Run
set_option maxRecDepth 100000
set_option maxHeartbeats 4000000
def Inv11 (m:Mod) (vm:Value) (cs:List Value) (a0:Act) (w0:World) (D:Nat→Prop) (a:Act) (w:World):Prop:=
 ∃ (x50 x51 x52 x53 x54 x11:Value) (bv:Nat) (dim:Nm→Option (Nat × Nat)) (arrs:List Nat) (bp bt:Nat),a=putS a0 x50 x51 x52 x53 x54 x11∧Chg [] w0 w∧(D 0→x50=vm)∧(D 1→x51=vm) ∧
  (D 2→x52 = .map (some bv)∧w0.heap.size≤bv∧VarsAt w w0.heap.size bv m.vars dim arrs)∧(D 3→x53 = .agg (cs ++ [Value.map (some bv)]).toArray) ∧
  (D 4→x54=ptr bp∧w0.heap.size≤bp∧Blk w bp (cs ++ [Value.map (some bv)]).toArray 102) ∧
  (D 5→x11=ptr bt∧w0.heap.size≤bt ∧ ∃ u,Blk w bt #[u] 94∧(D 6→u=ptr bp))∧(D 3→D 2)∧(D 4→D 3)∧(D 6→D 4∧D 5)
theorem part_step01 {m:Mod} {vm:Value} {cs:List Value} {a0:Act} {w0:World} {D:Nat→Prop} {a:Act} {w:World} (h:Inv11 m vm cs a0 w0 D a w) (hs : 54 < a0.tmps.size):Inv11 m vm cs a0 w0 (fun j=>D j∨j=0) (a.put (some 50) vm) w∧Inv11 m vm cs a0 w0 (fun j=>D j∨j=1) (a.put (some 51) vm) w:=by
 obtain⟨x50,x51,x52,x53,x54,x11,bv,dim,arrs,bp,bt,rfl,hc,h0,h1,h2,h3,h4,h5,h6,h7,h8⟩:=h;rw [(putS_put a0 x50 x51 x52 x53 x54 x11 vm hs).1,(putS_put a0 x50 x51 x52 x53 x54 x11 vm hs).2.1]
 constructor
 ·refine⟨vm,x51,x52,x53,x54,x11,bv,dim,arrs,bp,bt,rfl,hc,fun _=>rfl,fun h=>h1 (by simpa using h),fun h=>h2 (by simpa using h),fun h=>h3 (by simpa using h),fun h=>h4 (by simpa using h),fun h=>?_,fun h=>by simpa using h6 (by simpa using h),fun h=>by simpa using h7 (by simpa using h),fun h=>by simpa using h8 (by simpa using h)⟩
  obtain⟨g1,g2,u,g3,g4⟩:=h5 (by simpa using h);exact⟨g1,g2,u,g3,fun h=>g4 (by simpa using h)⟩
 ·refine⟨x50,vm,x52,x53,x54,x11,bv,dim,arrs,bp,bt,rfl,hc,fun h=>h0 (by simpa using h),fun _=>rfl,fun h=>h2 (by simpa using h),fun h=>h3 (by simpa using h),fun h=>h4 (by simpa using h),fun h=>?_,fun h=>by simpa using h6 (by simpa using h),fun h=>by simpa using h7 (by simpa using h),fun h=>by simpa using h8 (by simpa using h)⟩
  obtain⟨g1,g2,u,g3,g4⟩:=h5 (by simpa using h);exact⟨g1,g2,u,g3,fun h=>g4 (by simpa using h)⟩
theorem VarsAt_keptB {w w':World} {lo b bt:Nat} {l:List Glob} {dim:Nm→Option (Nat × Nat)} {arrs:List Nat} {cs:Array Value} {t:TypeId} (h:VarsAt w lo b l dim arrs) (hb:Blk w bt cs t) (ht : t≠i64T) (hc:Chg [bt] w w'):VarsAt w' lo b l dim arrs:=by
 obtain⟨es,h1,h2⟩:=h.map;have hne : ∀ {x:Nat} {us:Array Value},Blk w x us i64T→x∉[bt]:=fun {x us} hx hm=>by
  simp at hm
  subst hm
  unfold Blk at hx hb
  rw [hb] at hx;cases hx
  exact ht rfl
 have hbm : b∉[bt]:=fun hm=>by
  simp at hm
  subst hm;obtain⟨arr,clock,hmm,_⟩:=h1
  unfold Blk at hb
  rw [hmm] at hb;cases hb
 refine⟨⟨es,h1.kept hc hbm,h2⟩,h.inj,h.arr,fun ha=>?_,fun n=>?_⟩
 ·obtain⟨h3,h4,k,h5⟩:=h.low ha
  exact⟨h3,by have:=hc.size;omega,k,h5.kept hc (hne h5)⟩
 ·have:=h.is n
  cases hd : dim n with
  | none=>rw [hd] at this;exact this
  | some x=>
   rw [hd] at this;exact⟨this.1,this.2.kept hc (hne this.2)⟩
theorem part_step2 {m:Mod} {vm:Value} {cs:List Value} {a0:Act} {w0:World} {D:Nat→Prop} {a:Act} {w w':World} {bv':Nat} {dim':Nm→Option (Nat × Nat)} {arrs':List Nat} (h:Inv11 m vm cs a0 w0 D a w) (hs : 54 < a0.tmps.size) (hD : ¬ D 2) (hc':Chg [] w w') (hbv : w0.heap.size≤bv') (hva:VarsAt w' w0.heap.size bv' m.vars dim' arrs'):Inv11 m vm cs a0 w0 (fun j=>D j∨j=2) (a.put (some 52) (.map (some bv'))) w':=by
 obtain⟨x50,x51,x52,x53,x54,x11,bv,dim,arrs,bp,bt,rfl,hc,h0,h1,h2,h3,h4,h5,h6,h7,h8⟩:=h;rw [(putS_put a0 x50 x51 x52 x53 x54 x11 _ hs).2.2.1];refine⟨x50,x51,_,x53,x54,x11,bv',dim',arrs',bp,bt,rfl,hc.then hc',fun h=>h0 (by simpa using h),fun h=>h1 (by simpa using h),fun _=>⟨rfl,hbv,hva⟩,fun h=>absurd (h6 (by simpa using h)) hD,fun h=>absurd (h6 (h7 (by simpa using h))) hD,fun h=>?_,fun h=>.inr rfl,fun h=>by simpa using h7 (by simpa using h),fun h=>by simpa using h8 (by simpa using h)⟩;obtain⟨g1,g2,u,g3,g4⟩:=h5 (by simpa using h);exact⟨g1,g2,u,g3.kept hc' (by simp),fun h=>g4 (by simpa using h)⟩
theorem part_step3 {m:Mod} {vm:Value} {cs:List Value} {a0:Act} {w0:World} {D:Nat→Prop} {a:Act} {w:World} (h:Inv11 m vm cs a0 w0 D a w) (hs : 54 < a0.tmps.size) (d0:D 0) (d2:D 2):Inv11 m vm cs a0 w0 (fun j=>D j∨j=3) (a.put (some 53) (.agg (cs ++ [a.eval (.tmp 52)]).toArray)) w∧a.eval (.tmp 50)=vm ∧ ∃ bv:Nat,a.eval (.tmp 52) = .map (some bv):=by
 obtain⟨x50,x51,x52,x53,x54,x11,bv,dim,arrs,bp,bt,rfl,hc,h0,h1,h2,h3,h4,h5,h6,h7,h8⟩:=h;have hq:=putS_slot a0 x50 x51 x52 x53 x54 x11 hs;rw [hq.2.1,hq.2.2.1];rw [(putS_put a0 x50 x51 x52 x53 x54 x11 _ hs).2.2.2.1];refine⟨⟨x50,x51,x52,_,x54,x11,bv,dim,arrs,bp,bt,rfl,hc,fun h=>h0 (by simpa using h),fun h=>h1 (by simpa using h),fun h=>h2 (by simpa using h),fun _=>by rw [(h2 d2).1],fun h=>h4 (by simpa using h),fun h=>?_,fun _=>.inl d2,fun h=>.inr rfl,fun h=>by simpa using h8 (by simpa using h)⟩,h0 d0,bv,(h2 d2).1⟩;obtain⟨g1,g2,u,g3,g4⟩:=h5 (by simpa using h);exact⟨g1,g2,u,g3,fun h=>g4 (by simpa using h)⟩
theorem part_step4 {m:Mod} {vm:Value} {cs:List Value} {a0:Act} {w0:World} {D:Nat→Prop} {a:Act} {w:World} (h:Inv11 m vm cs a0 w0 D a w) (hs : 54 < a0.tmps.size) (d3:D 3) (hD : ¬ D 4) : ∃ bv:Nat,a.eval (.tmp 53) = .agg (cs ++ [Value.map (some bv)]).toArray∧Inv11 m vm cs a0 w0 (fun j=>D j∨j=4) (a.put (some 54) (ptr w.heap.size)) (w.alloc (.cells (cs ++ [Value.map (some bv)]).toArray 102)):=by
 obtain⟨x50,x51,x52,x53,x54,x11,bv,dim,arrs,bp,bt,rfl,hc,h0,h1,h2,h3,h4,h5,h6,h7,h8⟩:=h;refine⟨bv,by rw [(putS_slot a0 x50 x51 x52 x53 x54 x11 hs).2.2.2.1,h3 d3],?_⟩;rw [(putS_put a0 x50 x51 x52 x53 x54 x11 _ hs).2.2.2.2.1];have hca:Chg [] w (w.alloc (.cells (cs ++ [Value.map (some bv)]).toArray 102)):=(Chg.refl _ _).alloc _;refine⟨x50,x51,x52,x53,_,x11,bv,dim,arrs,w.heap.size,bt,rfl,hc.then hca,fun h=>h0 (by simpa using h),fun h=>h1 (by simpa using h),fun h=>?_,fun h=>h3 (by simpa using h),fun _=>⟨rfl,hc.size,Blk.new _ _ _⟩,fun h=>?_,fun h=>by simpa using h6 (by simpa using h),fun h=>.inl d3,fun h=>?_⟩
 ·obtain⟨g1,g2,g3⟩:=h2 (by simpa using h)
  exact⟨g1,g2,g3.keptS hca⟩
 ·obtain⟨g1,g2,u,g3,g4⟩:=h5 (by simpa using h)
  exact⟨g1,g2,u,g3.kept hca (by simp),fun h=>absurd (h8 (by simpa using h)).1 hD⟩
 ·exact absurd (h8 (by simpa using h)).1 hD
theorem part_step5 {m:Mod} {vm:Value} {cs:List Value} {a0:Act} {w0:World} {D:Nat→Prop} {a:Act} {w:World} (h:Inv11 m vm cs a0 w0 D a w) (hs : 54 < a0.tmps.size) (hD : ¬ D 5):Inv11 m vm cs a0 w0 (fun j=>D j∨j=5) (a.put (some 11) (ptr w.heap.size)) (w.alloc (.cells #[nilp] 94)):=by
 obtain⟨x50,x51,x52,x53,x54,x11,bv,dim,arrs,bp,bt,rfl,hc,h0,h1,h2,h3,h4,h5,h6,h7,h8⟩:=h;rw [(putS_put a0 x50 x51 x52 x53 x54 x11 _ hs).2.2.2.2.2];have hca:Chg [] w (w.alloc (.cells #[nilp] 94)):=(Chg.refl _ _).alloc _;refine⟨x50,x51,x52,x53,x54,_,bv,dim,arrs,bp,w.heap.size,rfl,hc.then hca,fun h=>h0 (by simpa using h),fun h=>h1 (by simpa using h),fun h=>?_,fun h=>h3 (by simpa using h),fun h=>?_,fun h=>⟨rfl,hc.size,nilp,Blk.new _ _ _,fun h=>absurd (h8 (by simpa using h)).2 hD⟩,fun h=>by simpa using h6 (by simpa using h),fun h=>by simpa using h7 (by simpa using h),fun h=>absurd (h8 (by simpa using h)).2 hD⟩
 ·obtain⟨g1,g2,g3⟩:=h2 (by simpa using h)
  exact⟨g1,g2,g3.keptS hca⟩
 ·obtain⟨g1,g2,g3⟩:=h4 (by simpa using h)
  exact⟨g1,g2,g3.kept hca (by simp)⟩
theorem part_step6 {m:Mod} {vm:Value} {cs:List Value} {a0:Act} {w0:World} {D:Nat→Prop} {a:Act} {w:World} (h:Inv11 m vm cs a0 w0 D a w) (hs : 54 < a0.tmps.size) (d4:D 4) (d5:D 5) : ∃ (bt bp:Nat) (u:Value),a.eval (.tmp 11)=ptr bt∧a.eval (.tmp 54)=ptr bp∧Blk w bt #[u] 94∧Inv11 m vm cs a0 w0 (fun j=>D j∨j=6) (a.put none undef) (w.setCell ⟨bt,0,none⟩ (ptr bp)):=by
 obtain⟨x50,x51,x52,x53,x54,x11,bv,dim,arrs,bp,bt,rfl,hc,h0,h1,h2,h3,h4,h5,h6,h7,h8⟩:=h;obtain⟨g1,g2,u,g3,g4⟩:=h5 d5;obtain⟨k1,k2,k3⟩:=h4 d4;have hset:Chg [bt] w (w.setCell ⟨bt,0,none⟩ (ptr bp)):=Chg.set1 _ _ _ _;refine⟨bt,bp,u,by rw [(putS_slot a0 x50 x51 x52 x53 x54 x11 hs).2.2.2.2.2.1,g1],by rw [(putS_slot a0 x50 x51 x52 x53 x54 x11 hs).2.2.2.2.1,k1],g3,?_⟩;refine⟨x50,x51,x52,x53,x54,x11,bv,dim,arrs,bp,bt,rfl,hc.trans hset (fun x hx=>.inr (by simp at hx;omega)),fun h=>h0 (by simpa using h),fun h=>h1 (by simpa using h),fun h=>?_,fun h=>h3 (by simpa using h),fun h=>⟨k1,k2,k3.kept hset (fun hm=>?_)⟩,fun h=>⟨g1,g2,ptr bp,by simpa using g3.set 0 (ptr bp),fun _=>rfl⟩,fun h=>by simpa using h6 (by simpa using h),fun h=>by simpa using h7 (by simpa using h),fun h=>⟨.inl d4,.inl d5⟩⟩
 ·obtain⟨q1,q2,q3⟩:=h2 (by simpa using h)
  exact⟨q1,q2,VarsAt_keptB q3 g3 (by decide) hset⟩
 ·simp at hm
  subst hm
  unfold Blk at k3 g3
  rw [g3] at k3;simp at k3
section
variable {a:Act} {w:World} {K:Act→World→Prop} {Q:Exit→Act→World→Prop} {dst:Option Tmp} {ty:TypeId} {pos:String} {af:Array Edge} {gd:Option (Nat × Bool)}
theorem op_load {bm:Nat} {x:Operand} {c0 c1 c2 c3 c4:Value} (e4 : a.eval x=ptr bm) (hb:Blk w bm #[c0,c1,c2,c3,c4] 32) (h:K (a.put dst (.agg #[c0,c1,c2,c3,c4])) w):Oper.wp Tryz.prog ⟨dst,.load 32 x,ty,pos,af,gd⟩ a w K Q:=by
 have q0:=hb.cell 0 _ rfl;have q1:=hb.cell 1 _ rfl;have q2:=hb.cell 2 _ rfl;have q3:=hb.cell 3 _ rfl;have q4:=hb.cell 4 _ rfl;clear hb
 unfold Oper.wp
 simp only [execOp,e4];simp [Instr.loadAt,go_sem,q0,q1,q2,q3,q4]
 exact h
theorem op_call {v:Value} {f:FuncId} {tys:Array TypeId} (hF : ∀ (args:Array Value) (w:World),(callFunc f args).run Tryz.prog w = .ok (.enter f args) w) (e1 : a.eval (.tmp 51)=v) {R:Ending→World→Prop} (hc:Calls Tryz.prog f #[v] w R) (hR : ∀ e w',R e w' → ∃ u,e = .returned u∧K (a.put dst u) w'):Oper.wp Tryz.prog ⟨dst,.call { callee:=.value (.func f),args:=#[.tmp 51],argTypes:=tys },ty,pos,af,gd⟩ a w K Q:=by
 have e2:=e1;simp only [Act.eval] at e2
 unfold Oper.wp
 simp only [execOp,resolve,invoke];simp [e2,hF,go_sem]
 show Calls _ _ _ _ _
 refine hc.mono ?_;rintro e w5 he;obtain⟨u,rfl,hk⟩:=hR e w5 he;exact hk
theorem op_build {c0 c1 c2 c3 c4:Value} {ob:Option Nat} (e1 : a.eval (.tmp 50) = .agg #[c0,c1,c2,c3,c4]) (e2 : a.eval (.tmp 52) = .map ob) (h:K (a.put dst (.agg #[c0,c1,c2,c3,c4,.map ob])) w):Oper.wp Tryz.prog ⟨dst,.build 102 #[(0,.tmp 50),(1,.tmp 52)],ty,pos,af,gd⟩ a w K Q:=by
 unfold Oper.wp
 simp only [execOp,List.map_toArray,List.map_cons,List.map_nil,e1,e2];simp [go_sem]
 exact h
theorem op_box {c0 c1 c2 c3 c4 c5:Value} (e1 : a.eval (.tmp 53) = .agg #[c0,c1,c2,c3,c4,c5]) (h:K (a.put dst (ptr w.heap.size)) (w.alloc (.cells #[c0,c1,c2,c3,c4,c5] 102))):Oper.wp Tryz.prog ⟨dst,.box 102 (.tmp 53),ty,pos,af,gd⟩ a w K Q:=by
 have e3:=e1;simp only [Act.eval] at e3
 unfold Oper.wp
 simp only [execOp];simp [go_sem,e3]
 exact h
theorem op_alloc (h:K (a.put dst (ptr w.heap.size)) (w.alloc (.cells #[nilp] 94))):Oper.wp Tryz.prog ⟨dst,.alloc 94,ty,pos,af,gd⟩ a w K Q:=by
 unfold Oper.wp
 simp only [execOp];simp [go_sem]
 exact h
theorem op_store {bt bp:Nat} {u:Value} (e1 : a.eval (.tmp 11)=ptr bt) (e2 : a.eval (.tmp 54)=ptr bp) (hb:Blk w bt #[u] 94) (h:K (a.put dst undef) (w.setCell ⟨bt,0,none⟩ (ptr bp))):Oper.wp Tryz.prog ⟨dst,.store 94 (.tmp 11) (.tmp 54),ty,pos,af,gd⟩ a w K Q:=by
 have q0:=hb.cell 0 _ rfl;have f0:=hb.frozen 0;clear hb
 unfold Oper.wp
 simp only [execOp,e1,e2];simp [Instr.storeAt,go_sem,q0,f0]
 exact h
end
theorem part_region {m:Mod} {bm:Nat} {ai av ap ab:Option Addr} {ci cv cp cb:Nat} {a0:Act} {w:World} {Q:Exit→Act→World→Prop} (hs : 54 < a0.tmps.size) (h4 : a0.eval (.tmp 4)=ptr bm)
  (hu : a0.tmps[50]?=some undef∧a0.tmps[51]?=some undef∧a0.tmps[52]?=some undef∧a0.tmps[53]?=some undef∧a0.tmps[54]?=some undef∧a0.tmps[11]?=some undef)
  (hb:Blk w.drew bm #[str m.name,.slice ai m.imports.length ci,.slice av m.vars.length cv,.slice ap m.procs.length cp,.slice ab m.body.len cb] 32)
  (hst : ∀ wq,Chg [] w.drew wq→Calls Tryz.prog 39 #[.agg #[str m.name,.slice ai m.imports.length ci,.slice av m.vars.length cv,.slice ap m.procs.length cp,.slice ab m.body.len cb]] wq (fun e w5=>∃ bv dim arrs,e = .returned (.map (some bv))∧w.drew.heap.size≤bv∧VarsAt w5 w.drew.heap.size bv m.vars dim arrs∧Chg [] wq w5))
  (hQ : ∀ (bv:Nat) (dim:Nm→Option (Nat × Nat)) (arrs:List Nat) (bp bt:Nat) (w':World),w.drew.heap.size≤bp∧w.drew.heap.size≤bt∧w.drew.heap.size≤bv→VarsAt w' w.drew.heap.size bv m.vars dim arrs→Chg [] w.drew w'→Blk w' bt #[ptr bp] 94 →
   Blk w' bp #[str m.name,.slice ai m.imports.length ci,.slice av m.vars.length cv,.slice ap m.procs.length cp,.slice ab m.body.len cb,.map (some bv)] 102 →
   Q .normal (putS a0 (.agg #[str m.name,.slice ai m.imports.length ci,.slice av m.vars.length cv,.slice ap m.procs.length cp,.slice ab m.body.len cb]) (.agg #[str m.name,.slice ai m.imports.length ci,.slice av m.vars.length cv,.slice ap m.procs.length cp,.slice ab m.body.len cb]) (.map (some bv)) (.agg #[str m.name,.slice ai m.imports.length ci,.slice av m.vars.length cv,.slice ap m.procs.length cp,.slice ab m.body.len cb,.map (some bv)]) (ptr bp) (ptr bt)) w') :
  (Code.region 11 ops11.toArray true).wp Tryz.prog Q a0 w:=by
 refine wp_region_I (Inv11 m (.agg #[str m.name,.slice ai m.imports.length ci,.slice av m.vars.length cv,.slice ap m.procs.length cp,.slice ab m.body.len cb]) [str m.name,.slice ai m.imports.length ci,.slice av m.vars.length cv,.slice ap m.procs.length cp,.slice ab m.body.len cb] a0 w.drew) rfl (by kernel_rfl) ?_ ?_ ?_
 ·refine⟨undef,undef,undef,undef,undef,undef,0,fun _=>none,[],0,0,?_,Chg.refl _ _,(fun h=>h.elim),(fun h=>h.elim),(fun h=>h.elim),(fun h=>h.elim),(fun h=>h.elim),(fun h=>h.elim),(fun h=>h.elim),(fun h=>h.elim),(fun h=>h.elim)⟩
  obtain⟨t,d⟩:=a0;simp only at hu;obtain⟨u0,u1,u2,u3,u4,u5⟩:=hu;refine act_eq (Array.ext_getElem? ?_);intro k;by_cases e0 : 50=k
  ·subst e0;simp [Array.getElem?_setIfInBounds,u0];simp at hs;omega
  by_cases e1 : 51=k
  ·subst e1;simp [Array.getElem?_setIfInBounds,u1];simp at hs;omega
  by_cases e2 : 52=k
  ·subst e2;simp [Array.getElem?_setIfInBounds,u2];simp at hs;omega
  by_cases e3 : 53=k
  ·subst e3;simp [Array.getElem?_setIfInBounds,u3];simp at hs;omega
  by_cases e4 : 54=k
  ·subst e4;simp [Array.getElem?_setIfInBounds,u4];simp at hs;omega
  by_cases e5 : 11=k
  ·subst e5;simp [Array.getElem?_setIfInBounds,u5];simp at hs;omega
  simp [Array.getElem?_setIfInBounds,e0,e1,e2,e3,e4,e5]
 ·intro D a w' hD hI
  obtain⟨x50,x51,x52,x53,x54,x11,bv,dim,arrs,bp',bt,rfl,hcI,h0,h1,h2,h3,h4',h5,_,_,_⟩:=hI;obtain rfl:=h0 (hD 0 (by simp [ops11]));obtain rfl:=h1 (hD 1 (by simp [ops11]));obtain⟨rfl,hbv,hva⟩:=h2 (hD 2 (by simp [ops11]));obtain rfl:=h3 (hD 3 (by simp [ops11]));obtain⟨rfl,hbp,hbP⟩:=h4' (hD 4 (by simp [ops11]));obtain⟨rfl,hbt,u,hbT,hu'⟩:=h5 (hD 5 (by simp [ops11]));obtain rfl:=hu' (hD 6 (by simp [ops11]));exact hQ bv dim arrs bp' bt w' ⟨hbp,hbt,hbv⟩ hva hcI hbT (by simpa using hbP)
 ·intro D a w' i o ho hnD hw hI
  have hi : i < 7:=by have:=(List.getElem?_eq_some_iff.1 ho).1;simpa [ops11] using this
  have e4 : a.eval (.tmp 4)=ptr bm:=by
   obtain⟨x50,x51,x52,x53,x54,x11,bv,dim,arrs,bp',bt,rfl,_⟩:=hI;rw [(putS_slot a0 x50 x51 x52 x53 x54 x11 hs).2.2.2.2.2.2,h4]
  have hcw:Chg [] w.drew w':=by
   obtain⟨x50,x51,x52,x53,x54,x11,bv,dim,arrs,bp',bt,_,hc,_⟩:=hI;exact hc
  have hbw:=hb.kept hcw (by simp);obtain rfl|rfl|rfl|rfl|rfl|rfl|rfl : i=0∨i=1∨i=2∨i=3∨i=4∨i=5∨i=6:=by omega
  all_goals
   refine wpOp_of (o:=o) (by rw [List.getElem?_toArray];exact ho) ?_ ?_
   all_goals simp only [ops11,List.getElem?_cons_zero,List.getElem?_cons_succ,Option.some.injEq] at ho
   all_goals subst ho
   ·rfl
  ·exact op_load e4 hbw (part_step01 hI hs).1
  ·exact op_load e4 hbw (part_step01 hI hs).2
  ·have d1:D 1:=hw ⟨1,.data⟩ (by simp) rfl
   have e51 : a.eval (.tmp 51) = .agg #[str m.name,.slice ai m.imports.length ci,.slice av m.vars.length cv,.slice ap m.procs.length cp,.slice ab m.body.len cb]:=by
    obtain⟨x50,x51,x52,x53,x54,x11,bv,dim,arrs,bp',bt,rfl,_,_,h1,_⟩:=hI;rw [(putS_slot a0 x50 x51 x52 x53 x54 x11 hs).1,h1 d1]
   refine op_call (fun _ _=>rfl) e51 (hst w' hcw) ?_;rintro e w5 ⟨bv,dim,arrs,rfl,hbv,hva,hc5⟩;exact⟨_,rfl,part_step2 hI hs hnD hc5 hbv hva⟩
  ·obtain⟨hp,e50,bv,e52⟩:=part_step3 hI hs (hw ⟨0,.data⟩ (by simp) rfl) (hw ⟨2,.data⟩ (by simp) rfl)
   rw [e52] at hp;exact op_build e50 e52 hp
  ·obtain⟨bv,e53,hp⟩:=part_step4 hI hs (hw ⟨3,.data⟩ (by simp) rfl) hnD
   exact op_box e53 hp
  ·exact op_alloc (part_step5 hI hs hnD)
  ·obtain⟨bt,bp,u,e11,e54,hbt,hp⟩:=part_step6 hI hs (hw ⟨4,.data⟩ (by simp) rfl) (hw ⟨5,.data⟩ (by simp) rfl)
   exact op_store e11 e54 hbt hp
end Go.Proofs.YtechofppmnnomaaGreatDoor
namespace Go.Mq.Run
open Go Go.RowKit Go.Mq Go.Mq.Tree Go.Mq.Sym
open Go.Mq.Plan (MapIs getM putM run_getM run_getMok run_getNok run_putM)
structure Front (w:World) (Own G:Nat→Prop) (bw:Nat) (W:Wd) (pv:Option Nat) (oa:Option Addr) (oc:Nat):Prop where
 blk:Blk w bw #[.map pv,.slice oa W.order.length oc] 40
 at_ : (pv=none∧W=Wd.zero∧oa=none∧oc=0) ∨ ∃ bp L pes,pv=some bp∧Has w Own G bw W L∧OrdAt w Own G bw W L bp (.slice oa W.order.length oc) pes
theorem WAt.front {w:World} {Own G:Nat→Prop} {bw:Nat} {W:Wd} (h:WAt w Own G bw W) : ∃ pv oa oc,Front w Own G bw W pv oa oc:=by
 rcases h.at_ with⟨rfl,h2⟩|⟨L,h1⟩
 ·exact⟨none,none,0,h2,.inl ⟨rfl,rfl,rfl,rfl⟩⟩
 ·obtain⟨bp,ov,pes,ho⟩:=h1.order
  obtain⟨oa,oc,rfl⟩:=slice_of_owns ho.2.1;exact⟨some bp,oa,oc,ho.1,.inr ⟨bp,L,pes,rfl,h1,ho⟩⟩
theorem WAt.idle {w w':World} {Own G Gm:Nat→Prop} {bw:Nat} {W:Wd} (h:WAt w Own G bw W) (hc:Chg [] w w') (hgm : ∀ x,Gm x→x < w.heap.size∧¬ Own x):WAt w' (More Own w w') (fun x=>G x∨Gm x) bw W:=by
 have hs:=hc.size;refine⟨.inl h.own,fun x hx=>?_,fun x hx hx'=>?_,h.good,h.few,?_⟩
 ·rcases hx with(hx|hx)|hx|hx
  ·have:=h.lt x (.inl hx);omega
  ·exact hx.2
  ·have:=h.lt x (.inr hx);omega
  ·have:=(hgm x hx).1;omega
 ·rcases hx with hx|hx <;> rcases hx' with hx'|hx'
  ·exact h.dis x hx hx'
  ·exact(hgm x hx').2 hx
  ·have:=h.lt x (.inr hx');omega
  ·have:=(hgm x hx').1;omega
 ·rcases h.at_ with⟨h1,h2⟩|⟨L,h1⟩
  ·exact .inl ⟨h1,h2.kept hc (by simp)⟩
  ·refine .inr ⟨L,?_⟩
   have h2:=h1.kept hc (by simp);obtain⟨bp,ov,pes,g1,g2,g3,g4,g5,g6,g7⟩:=h2.order;refine⟨h2.bw_,h2.M,fun x hx=>(h2.fix x hx).imp .inl .inl,fun x hx=>.inl (h2.arrs x hx),h2.home,⟨bp,ov,pes,g1,g2,g3,fun g hg=>⟨(g4 g hg).1,.inl (g4 g hg).2⟩,g5,.inl g6,fun q=>?_⟩,h2.inj⟩;have:=g7 q;cases hq:W.M q with
   | none=>rw [hq] at this;exact this
   | some m=>
    rw [hq] at this;obtain⟨a1,a2,bv,⟨a3,a4⟩,a5⟩:=this;exact⟨a1,.inl a2,bv,⟨.inl a3,a4⟩,a5.mono (fun x hx=>⟨hx.1,hx.2.imp .inl id⟩)⟩
end Go.Mq.Run
namespace Go.Proofs.YtechofppmnnomaaGreatDoor
open Go Go.RowKit Go.Mq Go.Mq.Tree Go.Mq.Sym Go.Mq.Run
open Go.Mq.Check (FewM FewS FewE argsN check Out)
open Go.Mq.Plan (MapIs getM putM run_getM run_getMok run_getNok run_putM)
set_option maxRecDepth 100000
set_option maxHeartbeats 4000000
def Loaded (w:World) (Own G Gm:Nat→Prop) (bw:Nat) (r:Wd × Nat × List Int × Out) (e:Ending) (w':World):Prop:=
 ∃ ve vo,e = .returned (.tuple #[ve,vo])∧EndV w' w.heap.size r.2.1 r.2.2.1 ve∧ErrV w' r.2.2.2 vo∧WAt w' (More Own w w') (fun x=>G x∨Gm x) bw r.1∧ChgO Own w w'
theorem front_look {w:World} {Own G:Nat→Prop} {bw:Nat} {W:Wd} {pv:Option Nat} {oa:Option Addr} {oc:Nat} (h:Front w Own G bw W pv oa oc) (q:Nm) : ∃ o,∀ w',Chg [] w w'→(Instr.lookup 38 (.map pv) (str q) true).run Tryz.prog w' = .ok (.tuple #[.pointer o,.bool (W.M q).isSome]) w':=by
 rcases h.at_ with⟨rfl,rfl,_⟩|⟨bp,L,pes,rfl,_,ho⟩
 ·refine⟨none,fun w' hc=>?_⟩
  have:=run_getNok (P:=Tryz.prog) Tryz.underlying38 Tryz.underlying9 (zero_part w') q true;rw [if_pos rfl] at this;exact this
 ·have:=ho.2.2.2.2.2.2 q
  cases hq:W.M q with
  | none=>
   refine⟨none,fun w' hc=>?_⟩;have hl:=run_getMok (P:=Tryz.prog) Tryz.underlying38 Tryz.underlying9 (zero_part w') (ho.2.2.1.kept hc (by simp)) q;rw [hq] at this;simp only at this;rw [this] at hl;exact hl
  | some m=>
   refine⟨some ⟨L.pb q,0,none⟩,fun w' hc=>?_⟩;have hl:=run_getMok (P:=Tryz.prog) Tryz.underlying38 Tryz.underlying9 (zero_part w') (ho.2.2.1.kept hc (by simp)) q;rw [hq] at this;simp only at this;rw [this.1] at hl;exact hl
theorem start_from (m:Mod) (hfew : m.vars.length≤10) (hlen : ∀ g∈m.vars,0≤g.len∧g.len≤30) (F:Nat→Prop) (ai:Option Addr) (ci:Nat) (av:Option Addr) (cv:Nat) (ap:Option Addr) (cp:Nat) (ab:Option Addr) (cb:Nat) (w:World) (hg:GlobsAt w F m.vars (.slice av m.vars.length cv)) (wq:World) (hq:Chg [] w wq) :
  Calls Tryz.prog 39 #[.agg #[str m.name,.slice ai m.imports.length ci,.slice av m.vars.length cv,.slice ap m.procs.length cp,.slice ab m.body.len cb]] wq (fun e w5=>∃ bv dim arrs,e = .returned (.map (some bv))∧w.heap.size≤bv∧VarsAt w5 w.heap.size bv m.vars dim arrs∧Chg [] wq w5):=by
 refine(start_any m hfew hlen F ai m.imports.length ci av cv ap m.procs.length cp ab m.body.len cb wq (hg.kept hq (by simp))).mono ?_;rintro e w5 ⟨bv,dim,arrs,rfl,h1,h2,h3⟩;have hs:=hq.size;refine⟨bv,dim,arrs,rfl,by omega,⟨h2.map,h2.inj,h2.arr,fun ha=>?_,h2.is⟩,h3⟩;obtain⟨h4,h5,h6⟩:=h2.low ha;exact⟨by omega,h5,h6⟩
theorem setE {w:World} {be:Nat} (n:Int) (v:Value) {u0 u1:Value} {t:TypeId} (h:Blk w be #[u0,u1] t) : ∃ wE,((w.setCell ⟨be,0,none⟩ (num n)).setCell ⟨be,1,none⟩ v)=wE∧Blk wE be #[num n,v] t∧Chg [be] w wE:=
 ⟨_,rfl,by simpa using (h.set 0 (num n)).set 1 v,(Chg.set1 _ _ _ _).then (Chg.set1 _ _ _ _)⟩
theorem Loaded.no {w w':World} {Own G Gm:Nat→Prop} {bw:Nat} {W:Wd} {o:Out} {vo:Value} (h:WAt w Own G bw W) (hc:Chg [] w w') (hgm : ∀ x,Gm x→x < w.heap.size∧¬ Own x) (he:ErrV w' o vo):Loaded w Own G Gm bw (W,0,[],o) (.returned (.tuple #[.agg #[num 0,nils],vo])) w':=
 ⟨_,_,rfl,⟨nils,rfl,⟨rfl,.inl ⟨rfl,rfl⟩⟩,From.nil _⟩,he,h.idle hc hgm,.of hc⟩
theorem load_any (g:Nat) {w:World} {Own G Gm:Nat→Prop} {bw:Nat} {W:Wd} {m:Mod} {vm:Value} {fuel:Nat} {r:Wd × Nat × List Int × Out} (h:WAt w Own G bw W) (hm:ModAt w Gm m vm) (hgm : ∀ x,Gm x→x < w.heap.size∧¬ Own x) (hgood:GoodM m) (hfu : fuel≤9223372036854775807) (hr : loadW g W m fuel=some r) :
  Calls Tryz.prog 14 #[ptr bw,vm,num fuel] w (Loaded w Own G Gm bw r):=by
 have hmm:=@run_makeMap Tryz.prog;obtain⟨pv,oa,oc,hfr⟩:=h.front;obtain⟨ai,ci,av,cv,ap,cp,ab,cb,rfl⟩ : ∃ (ai:Option Addr) (ci:Nat) (av:Option Addr) (cv:Nat) (ap:Option Addr) (cp:Nat) (ab:Option Addr) (cb:Nat),vm = .agg #[str m.name,.slice ai m.imports.length ci,.slice av m.vars.length cv,.slice ap m.procs.length cp,.slice ab m.body.len cb]:=by
  obtain⟨vi,vv,vp,vb,rfl,⟨ai,ci,rfl,_⟩,⟨av,cv,rfl,_⟩,⟨ap,cp,pcs,rfl,_⟩,⟨ab,cb,bcs,rfl,_⟩⟩:=hm;exact⟨_,_,_,_,_,_,_,_,rfl⟩
 obtain⟨w0,hw0⟩ : ∃ x,w.alloc (.cells #[str m.name,.slice ai m.imports.length ci,.slice av m.vars.length cv,.slice ap m.procs.length cp,.slice ab m.body.len cb] 32)=x:=⟨_,rfl⟩
 have hb0:Blk w0 w.heap.size #[str m.name,.slice ai m.imports.length ci,.slice av m.vars.length cv,.slice ap m.procs.length cp,.slice ab m.body.len cb] 32:=by rw [← hw0];exact Blk.new w _ _
 have hc0:Chg [] w w0:=by rw [← hw0];exact(Chg.refl _ _).alloc _
 have hs0 : w0.heap.size=w.heap.size + 1:=by rw [← hw0];simp
 obtain⟨w1,hw1⟩ : ∃ x,w0.alloc (.cells #[num 0,nils] 43)=x:=⟨_,rfl⟩
 have hb1:Blk w1 w0.heap.size #[num 0,nils] 43:=by rw [← hw1];exact Blk.new w0 _ _
 have hc1:Chg [] w0 w1:=by rw [← hw1];exact(Chg.refl _ _).alloc _
 have hs1 : w1.heap.size=w0.heap.size + 1:=by rw [← hw1];simp
 obtain⟨bm,hbm⟩ : ∃ b,b=w.heap.size:=⟨_,rfl⟩
 obtain⟨be,hbe⟩ : ∃ b,b=w0.heap.size:=⟨_,rfl⟩
 have hcw1:Chg [] w w1:=hc0.then hc1
 obtain⟨wD,hwD⟩ : ∃ x,x=w1.drew:=⟨_,rfl⟩
 have hcD:Chg [] w wD:=hcw1.then (by rw [hwD];exact(Chg.refl [] w1).drew)
 have hcD1:Chg [] w1 wD:=by rw [hwD];exact(Chg.refl [] w1).drew
 have hbD:=(hb0.kept hc1 (by simp)).kept hcD1 (by simp);have heD:=hb1.kept hcD1 (by simp);have hwb:=hfr.blk.kept hcD (by simp);rw [← hbm] at hbD;rw [← hbe] at heD;have m0:=hbD.cell 0 _ rfl;have b0:=hwb.cell 0 _ rfl;have b1:=hwb.cell 1 _ rfl;have Z1:=zh (Zone.of (X:=[]) (w0:=wD) m0 (by simp));have Z2:=zh (Zone.of (X:=[]) (w0:=wD) b0 (by simp));obtain⟨o,hlk⟩:=front_look hfr m.name;have HLK:=zh (fun w' (hc:Chg [] wD w')=>hlk w' (hcD.then hc));clear hlk;obtain⟨bi,hbi⟩ : ∃ b,b=(W.M m.name).isSome:=⟨_,rfl⟩
 rw [← hbi] at HLK;have HBI:=zh hbi;clear hbi;have HLT:=zh (show bm=w.heap.size∧be=w.heap.size + 1∧wD.heap.size=w.heap.size + 2∧bw < w.heap.size by
  have:=h.lt bw (.inl h.own);exact⟨hbm,by omega,by rw [hwD];show w1.heap.size=_;omega,this⟩)
 have HCE:=zh (fun(wx:World) (hx:Chg [] w wx)=>(show Chg [] w ((wx.setCell ⟨be,0,none⟩ (num 0)).setCell ⟨be,1,none⟩ nils) from hx.trans ((Chg.set1 _ _ _ _).then (Chg.set1 _ _ _ _)) (fun x hx=>.inr (by have:=HLT.out;simp at hx;omega))));have H:=zh h;have HM:=zh hm;have HGM:=zh hgm;have HGO:=zh hgood;have HR:=zh hr;have HFR:=zh hfr;have HBD:=zh hbD;have HED:=zh heD;have HCD:=zh hcD;have HFU:=zh hfu;clear h hm hgm hgood hr hfr hb0 hc0 hs0 hb1 hc1 hs1 hcw1 hcD hcD1 hbD heD hwb hfu
 go_enter Tryz.func14,Tryz.ntmps14
 go_wp2_with fail;rw [← hbm,← hbe];clear hw0 hw1 hbm hbe;refine wp_region_L [] rfl (by kernel_rfl) ?_;rw [← hwD];clear hwD;have hS:Chg [] wD wD:=Chg.refl _ _
 repeat ((with_reducible refine gX ?_);(first|refine wpX_nil ?_|refine sK ?_|refine sM fun _ _=>?_|refine sL fun _ _=>?_|refine sE fun _ _=>?_);go_wp2_with fail)
 refine wpX_lk rfl rfl rfl rfl HLK.out ?_;cases bi with
 | true=>
  have e0:=HED.out.cell 0 _ rfl;have f0:=HED.out.frozen 0;have e1:=HED.out.cell 1 _ rfl;have f1:=HED.out.frozen 1;go_wp2_with fail
  repeat ((with_reducible refine gX ?_);(first|refine wpX_nil ?_|refine sK ?_|refine sM fun _ _=>?_|refine sL fun _ _=>?_|refine sE fun _ _=>?_);go_wp2_with fail)
  clear hS Z1 Z2;go_wp2_with fail;obtain⟨wE,hwE,hbE,hcE⟩:=setE 0 nils (HED.out);rw [hwE];have y0:=hbE.cell 0 _ rfl;have y1:=hbE.cell 1 _ rfl;refine bodyPost_ret (v:=.tuple #[.agg #[num 0,nils],.iface 46 (num 9)]) (by simp [results,Tryz.results14,go_sem,y0,y1]) rfl ?_;have hrr:=HR.out;rw [loadW,← HBI.out,if_pos rfl] at hrr;cases hrr
  rw [← hwE];exact Loaded.no H.out (HCE.out wD HCD.out) HGM.out rfl
 | false=>
  go_wp2_with fail
  repeat ((with_reducible refine gX ?_);(first|refine wpX_nil ?_|refine sK ?_|refine sM fun _ _=>?_|refine sL fun _ _=>?_|refine sE fun _ _=>?_);go_wp2_with fail)
  clear hS Z1 Z2;go_wp2_with fail;obtain⟨w2,hw2⟩ : ∃ x,x=wD.drew:=⟨_,rfl⟩
  have hc2:Chg [] w w2:=HCD.out.then (by rw [hw2];exact(Chg.refl [] wD).drew)
  have hcD2:Chg [] wD w2:=by rw [hw2];exact(Chg.refl [] wD).drew
  have bm2:=HBD.out.kept hcD2 (by simp);have q0:=bm2.cell 0 _ rfl;have q1:=bm2.cell 1 _ rfl;have q2:=bm2.cell 2 _ rfl;have q3:=bm2.cell 3 _ rfl;have q4:=bm2.cell 4 _ rfl;have Z1:=zh (Zone.of (X:=[]) (w0:=w2) q0 (by simp));have HS:=zh (seen_world (H.out.kept hc2 (by simp)));have HC2:=zh hc2;have HCD2:=zh hcD2;clear hc2 hcD2 bm2;refine wp_region_L [] rfl (by kernel_rfl) ?_;rw [← hw2];clear hw2;have hS:Chg [] w2 w2:=Chg.refl _ _
  repeat ((with_reducible refine gX ?_);(first|refine wpX_nil ?_|refine sK ?_|refine sM fun _ _=>?_|refine sL fun _ _=>?_|refine sE fun _ _=>?_);go_wp2_with fail)
  refine HS.out.mono ?_;rintro _ w3 ⟨vs,rfl,hsv,hc3⟩;have HSV:=zh hsv;have HC3:=zh hc3;have HCK:=zh (ccheck_any m HGO.out.few (seenOf W.M) (fun x=>Gm x∨New w2 w3 x) _ vs w3 (fun x hx=>by
   rcases hx with hx|hx
   ·have:=(HGM.out x hx).1;have:=(HC2.out.then hc3).size;omega
   ·exact hx.2) ((HM.out.kept (HC2.out.then hc3) (by simp)).mono (fun x hx=>.inl hx)) (hsv.mono (fun x hx=>.inr hx)))
  obtain⟨sv,rfl⟩ : ∃ ov,vs = .map ov:=by
   rcases hsv with⟨h,_⟩|⟨b,_,h,_⟩
   ·exact⟨_,h⟩
   ·exact⟨_,h⟩
  clear hS hsv hc3;go_wp2_with fail;refine And.intro HC3.out ?_;have hS:=HC3.out
  repeat ((with_reducible refine gX ?_);(first|refine wpX_nil ?_|refine sK ?_|refine sM fun _ _=>?_|refine sL fun _ _=>?_|refine sE fun _ _=>?_);go_wp2_with fail)
  refine HCK.out.mono ?_;rintro e w4 ⟨hc4,hck⟩;have HC4:=zh hc4;obtain⟨oc',hoc⟩ : ∃ o,o=check m (seenOf W.M):=⟨_,rfl⟩
  rw [← hoc] at hck;have HOC:=zh hoc;have HS4:=zh (HC3.out.then hc4);have HC04:=zh (HC2.out.then (HC3.out.then hc4));have HCD4:=zh (HCD2.out.then (HC3.out.then hc4));clear hS hc4 hoc;have HRR:=zh (show loadW g W m fuel=some r from HR.out);cases oc' with
  | plain n=>
   simp only at hck;subst hck;have e0:=(HED.out.kept HCD4.out (by simp)).cell 0 _ rfl;have f0:=(HED.out.kept HCD4.out (by simp)).frozen 0;have e1:=(HED.out.kept HCD4.out (by simp)).cell 1 _ rfl;have f1:=(HED.out.kept HCD4.out (by simp)).frozen 1;go_wp2_with fail;refine And.intro HS4.out ?_;have hS:=HS4.out
   repeat ((with_reducible refine gX ?_);(first|refine wpX_nil ?_|refine sK ?_|refine sM fun _ _=>?_|refine sL fun _ _=>?_|refine sE fun _ _=>?_);go_wp2_with fail)
   clear hS Z1 q0 q1 q2 q3 q4;go_wp2_with fail;obtain⟨wE,hwE,hbE,hcE⟩:=setE 0 nils (HED.out.kept HCD4.out (by simp));rw [hwE];have y0:=hbE.cell 0 _ rfl;have y1:=hbE.cell 1 _ rfl;refine bodyPost_ret (v:=.tuple #[.agg #[num 0,nils],.iface 46 (num n)]) (by simp [results,Tryz.results14,go_sem,y0,y1]) rfl ?_;have hrr:=HR.out;rw [loadW,← HBI.out,if_neg (by simp),← HOC.out] at hrr;cases hrr
   rw [← hwE];exact Loaded.no H.out (HCE.out w4 HC04.out) HGM.out rfl
  | at_ en p=>
   obtain⟨ba,rfl,hba,hbb⟩:=hck;have HBB:=zh hbb;have e0:=(HED.out.kept HCD4.out (by simp)).cell 0 _ rfl;have f0:=(HED.out.kept HCD4.out (by simp)).frozen 0;have e1:=(HED.out.kept HCD4.out (by simp)).cell 1 _ rfl;have f1:=(HED.out.kept HCD4.out (by simp)).frozen 1;have HBA:=zh hba;clear hbb hba;go_wp2_with fail;refine And.intro HS4.out ?_;have hS:=HS4.out
   repeat ((with_reducible refine gX ?_);(first|refine wpX_nil ?_|refine sK ?_|refine sM fun _ _=>?_|refine sL fun _ _=>?_|refine sE fun _ _=>?_);go_wp2_with fail)
   clear hS Z1 q0 q1 q2 q3 q4;go_wp2_with fail;obtain⟨wE,hwE,hbE,hcE⟩:=setE 0 nils (HED.out.kept HCD4.out (by simp));rw [hwE];have y0:=hbE.cell 0 _ rfl;have y1:=hbE.cell 1 _ rfl;refine bodyPost_ret (v:=.tuple #[.agg #[num 0,nils],.iface 140 (ptr ba)]) (by simp [results,Tryz.results14,go_sem,y0,y1]) rfl ?_;have hrr:=HR.out;rw [loadW,← HBI.out,if_neg (by simp),← HOC.out] at hrr;cases hrr
   rw [← hwE];refine Loaded.no H.out (HCE.out w4 HC04.out) HGM.out ⟨ba,rfl,HBB.out.kept ((Chg.set1 _ _ _ _).then (Chg.set1 _ _ _ _)) (by have:=HBA.out;have:=HLT.out;have:=HC2.out.size;have:=HC3.out.size;have:=HCD2.out.size;simp;omega)⟩
  | fine=>
   simp only at hck;subst hck;have hfr4:=HFR.out.blk.kept HC04.out (by simp);by_cases hfull:W.order.length=10
   ·rw [hfull] at hfr4
    have c0:=hfr4.cell 0 _ rfl;have c1:=hfr4.cell 1 _ rfl;have e0:=(HED.out.kept HCD4.out (by simp)).cell 0 _ rfl;have f0:=(HED.out.kept HCD4.out (by simp)).frozen 0;have e1:=(HED.out.kept HCD4.out (by simp)).cell 1 _ rfl;have f1:=(HED.out.kept HCD4.out (by simp)).frozen 1;have HFL:=zh hfull;clear hfr4 hfull;go_wp2_with fail;refine And.intro HS4.out ?_;have hS:=HS4.out
    repeat ((with_reducible refine gX ?_);(first|refine wpX_nil ?_|refine sK ?_|refine sM fun _ _=>?_|refine sL fun _ _=>?_|refine sE fun _ _=>?_);go_wp2_with fail)
    clear hS Z1 q0 q1 q2 q3 q4
    try go_wp2_with fail
    obtain⟨wE,hwE,hbE,hcE⟩:=setE 0 nils (HED.out.kept HCD4.out (by simp));rw [hwE];have y0:=hbE.cell 0 _ rfl;have y1:=hbE.cell 1 _ rfl;refine bodyPost_ret (v:=.tuple #[.agg #[num 0,nils],.iface 46 (num 12)]) (by simp [results,Tryz.results14,go_sem,y0,y1]) rfl ?_;have hrr:=HR.out;rw [loadW,← HBI.out,if_neg (by simp),← HOC.out] at hrr;simp only at hrr;rw [if_pos HFL.out] at hrr;cases hrr
    rw [← hwE];exact Loaded.no H.out (HCE.out w4 HC04.out) HGM.out rfl
   ·have hfl : ¬ ((W.order.length:Int)=10):=by omega
    have c0:=hfr4.cell 0 _ rfl;have c1:=hfr4.cell 1 _ rfl;have cf:=hfr4.frozen 0;have HFL:=zh hfull;clear hfull;rcases HFR.out.at_ with hz|hz
    focus
     obtain⟨rfl,hW,hoa,hoc⟩:=hz;have HWZ:=zh hW;have HOA:=zh hoa;have HOCC:=zh hoc;have hne : ∀ w,(binOp BinOp.eql 38 (.map none) (.map none)).run Tryz.prog w = .ok (.bool true) w:=fun _=>rfl
     obtain⟨wa,hwa⟩ : ∃ x,w4.alloc (.map #[] 0)=x:=⟨_,rfl⟩
     obtain⟨bp,hbp⟩ : ∃ b,b=w4.heap.size:=⟨_,rfl⟩
     have hma:MapIs wa bp []:=by rw [← hwa,hbp];exact MapIs.made w4
     have hca:Chg [] w4 wa:=by rw [← hwa];exact(Chg.refl _ _).alloc _
     have hba:=hfr4.kept hca (by simp);obtain⟨wT,hwT⟩ : ∃ x,wa.setCell ⟨bw,0,none⟩ (.map (some bp))=x:=⟨_,rfl⟩
     have hbT:Blk wT bw #[.map (some bp),.slice oa W.order.length oc] 40:=by rw [← hwT];exact hba.set 0 (.map (some bp))
     have hcT:Chg [bw] wa wT:=by rw [← hwT];exact Chg.set1 _ _ _ _
     have hmT:MapIs wT bp []:=hma.kept hcT (by simp;have:=HLT.out;have:=HC04.out.size;omega);have cff:=hba.frozen 0;have caa:=hba.cell 0 _ rfl;clear hfr4 hW hoa hoc;go_wp2_with fail;refine And.intro HS4.out ?_;have hS:=HS4.out
     repeat ((with_reducible refine gX ?_);(first|refine wpX_nil ?_|refine sK ?_|refine sM fun _ _=>?_|refine sL fun _ _=>?_|refine sE fun _ _=>?_);go_wp2_with fail)
     clear hS q0 q1 q2 q3 q4
     try go_wp2_with fail
     rw [← hbp,hwT];have hTw:Chg [bw] w wT:=(HC04.out.then hca).weak.then hcT
     have hbmT:=((HBD.out.kept HCD4.out (by simp)).kept hca (by simp)).kept hcT (by have:=HLT.out;simp;omega);have hbeT:=((HED.out.kept HCD4.out (by simp)).kept hca (by simp)).kept hcT (by have:=HLT.out;simp;omega);have hmdT:=(HM.out.kept (HC04.out.then hca) (by simp)).kept hcT (fun x hx hf=>by simp at hx;subst hx;exact(HGM.out _ hf).2 H.out.own);obtain⟨Own1,hO1⟩ : ∃ O:Nat→Prop,O=fun x=>Own x∨x=bp:=⟨_,rfl⟩
     have HBW:=zh (show Own1 bw by rw [hO1];exact .inl H.out.own);obtain⟨L,pes,hhas,hord⟩ : ∃ L pes,Has wT Own1 G bw W L∧OrdAt wT Own1 G bw W L bp (.slice oa W.order.length oc) pes:=by
      obtain rfl:=HWZ.out;obtain rfl:=HOA.out;obtain rfl:=HOCC.out;subst hO1;have hz:=Has.zero (Own:=fun x=>Own x∨x=bp) (G:=G) hbT hmT (.inl H.out.own) (.inr rfl);exact⟨_,[],hz,hbT,⟨rfl,.inl ⟨rfl,rfl⟩⟩,hmT,(fun g hg=>by cases hg),.inr rfl,.inr rfl,fun q=>rfl⟩
     have hown : ∀ x,Own1 x→Own x∨(w.heap.size≤x∧x < wT.heap.size):=by rw [hO1];exact fun x hx=>hx.imp id (fun h=>by subst h;have:=HC04.out.size;have:=hmT.lt;omega)
     have HNB:=zh (show ¬ Own1 be by rw [hO1];exact fun h=>h.elim (fun h=>by have:=H.out.lt be (.inl h);have:=HLT.out;omega) (fun e=>(hord.other hbeT (by decide)).1 e));clear hma hca hba hbT hcT hmT hwT hwa hbp caa cff c0 c1 cf hO1
    rotate_left
    focus
     obtain⟨bp,L,pes,rfl,hhas,hord⟩:=hz;have hne : ∀ w,(binOp BinOp.eql 38 (.map (some bp)) (.map none)).run Tryz.prog w = .ok (.bool false) w:=fun _=>rfl
     have HHAS:=zh hhas;have HORD:=zh hord;clear hhas hord hfr4;go_wp2_with fail;refine And.intro HS4.out ?_;have hS:=HS4.out
     repeat ((with_reducible refine gX ?_);(first|refine wpX_nil ?_|refine sK ?_|refine sM fun _ _=>?_|refine sL fun _ _=>?_|refine sE fun _ _=>?_);go_wp2_with fail)
     clear hS q0 q1 q2 q3 q4
     try go_wp2_with fail
     have hTw:Chg [bw] w w4:=HC04.out.weak;have hbmT:=HBD.out.kept HCD4.out (by simp);have hbeT:=HED.out.kept HCD4.out (by simp);have hmdT:=HM.out.kept HC04.out (by simp);have hhas:=HHAS.out.kept HC04.out (by simp);have hord:=HORD.out.keptF (by rw [← HHAS.out.bw_];exact HHAS.out.home.stat.own) HC04.out (by simp);have HBW:=zh H.out.own;have HNB:=zh (show ¬ Own be from fun h=>by have:=H.out.lt be (.inl h);have:=HLT.out;omega);obtain⟨Own1,hO1⟩ : ∃ O,O=Own:=⟨_,rfl⟩
     rw [← hO1] at HBW HNB hhas hord;have hown : ∀ x,Own1 x→Own x∨(w.heap.size≤x∧x < w4.heap.size):=by rw [hO1];exact fun x hx=>.inl hx
     obtain⟨wT,rfl⟩ : ∃ x,x=w4:=⟨_,rfl⟩
     clear c0 c1 cf hO1
    all_goals
     obtain⟨wU,hwU⟩ : ∃ x,x=wT.drew:=⟨_,rfl⟩
     have hcU:Chg [] wT wU:=by rw [hwU];exact(Chg.refl [] _).drew
     have HSU:=zh (show wU.heap.size=wT.heap.size by rw [hwU];rfl);have hbmU:=hbmT.kept hcU (by simp);have q0:=hbmU.cell 0 _ rfl;have q1:=hbmU.cell 1 _ rfl;have q2:=hbmU.cell 2 _ rfl;have q3:=hbmU.cell 3 _ rfl;have q4:=hbmU.cell 4 _ rfl;have Z1:=zh (Zone.of (X:=[]) (w0:=wU) q0 (by simp));have HST:=zh (start_from m HGO.out.wf.fewv (fun g hg=>⟨(HGO.out.wf.vars g hg).low,(HGO.out.wf.vars g hg).high⟩) Gm ai ci av cv ap cp ab cb wU (by
      obtain⟨vi,vv,vp,vb,he,_,hgl,_⟩:=hmdT.kept hcU (by simp);cases he
      exact hgl))
     have HTW:=zh hTw;have HBM:=zh hbmT;have HBE:=zh hbeT;have HMD:=zh hmdT;have HHT:=zh hhas;have HOT:=zh hord;have HOWN:=zh hown;have HCU:=zh hcU;clear hTw hbmT hbeT hmdT hhas hord hown hcU hbmU;have HWU:=zh hwU;clear hwU q0 q1 q2 q3 q4 Z1;refine part_region (m:=m) (bm:=bm) (by simp) rfl ⟨rfl,rfl,rfl,rfl,rfl,rfl⟩ (by rw [← HWU.out];exact HBM.out.kept HCU.out (by simp)) (by rw [← HWU.out];exact HST.out) ?_;rw [← HWU.out];intro bv dim arrs bp' bt wR hps hva hcR hbR hpR;have HVA:=zh hva;have HBV:=zh hps.2.2;have HSR:=zh hcR;have HBR:=zh hbR;have HPR:=zh hpR;have HPS:=zh (show wU.heap.size≤bp'∧wU.heap.size≤bt∧bt < wR.heap.size from⟨hps.1,hps.2.1,hbR.lt⟩);clear hva hcR hbR hpR hps;simp only [putS,List.setIfInBounds_toArray,List.set_cons_succ,List.set_cons_zero]
     try go_wp2_with fail
     obtain⟨wV,hwV⟩ : ∃ x,x=wR.drew:=⟨_,rfl⟩
     have hcV:Chg [] wR wV:=by rw [hwV];exact(Chg.refl [] _).drew
     have hcTV:Chg [] wT wV:=(HCU.out.then HSR.out).then hcV
     have hotV:=HOT.out.keptF (by rw [← HHT.out.bw_];exact HHT.out.home.stat.own) hcTV (by simp);have d0:=(HBM.out.kept hcTV (by simp)).cell 0 _ rfl;have b0:=hotV.1.cell 0 _ rfl;have t0:=(HBR.out.kept hcV (by simp)).cell 0 _ rfl;have Z1:=zh (Zone.of (X:=[]) (w0:=wV) d0 (by simp));have Z2:=zh (Zone.of (X:=[]) (w0:=wV) b0 (by simp));obtain⟨w6,hup,hm6,hc6⟩:=run_putM (P:=Tryz.prog) Tryz.underlying38 Tryz.underlying9 hotV.2.2.1 m.name (ptr bp');have HOV:=zh hotV;have HTV:=zh hcTV;have HM6:=zh hm6;have HC6:=zh hc6;have HCV:=zh hcV;clear hcV hcTV hotV hm6 hc6;refine wp_region_TE isEffL [] rfl (by kernel_rfl) rfl ?_;rw [← hwV];clear hwV;have hS:Chg [] wV wV:=Chg.refl _ _
     repeat ((with_reducible refine gX ?_);(first|refine wpX_nil ?_|refine sK ?_|refine sM fun _ _=>?_|refine sL fun _ _=>?_|refine sE fun _ _=>?_);go_wp2_with fail)
     refine stepX_ef rfl rfl (fun _ _=>?_);clear hS Z1 Z2 d0 b0 t0;go_wp2_with fail;obtain⟨wX,hwX⟩ : ∃ x,x=w6.drew:=⟨_,rfl⟩
     have hcX:Chg [] w6 wX:=by rw [hwX];exact(Chg.refl [] _).drew
     obtain⟨hs1,hs2,hs3⟩:=HOV.out.sep;have hbX:=(HOV.out.1.kept HC6.out (by simpa using hs1)).kept hcX (by simp);have hoX:=owns_kept (owns_kept HOV.out.2.1 HC6.out (fun g hg hm=>by simp at hm;subst hm;exact hs3 hg)) hcX (fun _ _ h=>by cases h);obtain⟨hmb1,hmb2⟩:=HOT.out.other HBM.out (by decide);have hmX:=(HBM.out.kept HTV.out (by simp)).kept (HC6.out.then hcX.weak) (by simpa using hmb1);have hbmx : bm∉blk (.slice oa W.order.length oc):=hmb2;have x1:=hbX.cell 1 _ rfl;have m0:=hmX.cell 0 _ rfl;have Z1:=zh (Zone.of (X:=blk (.slice oa W.order.length oc)) (w0:=wX) x1 hs2);have Z2:=zh (Zone.of (X:=blk (.slice oa W.order.length oc)) (w0:=wX) m0 hbmx);have HBX:=zh hbX;have HOX:=zh hoX;have HCX:=zh hcX;have HS2:=zh hs2;have HFW:=zh H.out.few;clear hcX hs1 hs2 hs3 hbX hoX hmX hbmx hmb1 hmb2;refine wp_region_T (blk (.slice oa W.order.length oc)) rfl (by kernel_rfl) rfl ?_;rw [← hwX];clear hwX;have hS:Chg (blk (.slice oa W.order.length oc)) wX wX:=Chg.refl _ _
     repeat ((with_reducible refine gX ?_);(first|refine wpX_nil ?_|refine sK ?_|refine sM fun _ _=>?_|refine sL (hz:=by first|exact Z1.out|exact Z2.out) fun _ _=>?_|refine sE fun _ _=>?_);go_wp2_with fail)
     refine And.intro (hS.alloc _) ?_;have hS1:Chg (blk (.slice oa W.order.length oc)) wX (wX.alloc (.cells #[str m.name] 9)):=hS.alloc _
     repeat ((with_reducible refine gX ?_);(first|refine wpX_nil ?_|refine sK ?_|refine sM fun _ _=>?_|refine sL (hz:=by first|exact Z1.out|exact Z2.out) fun _ _=>?_|refine sE fun _ _=>?_);go_wp2_with fail)
     refine wpX_append_any _ _ 27 rfl rfl rfl 9 (.string ⟨#[]⟩) 1 16 infoStrC Tryz.underlying27 rfl (by decide) (.slice oa W.order.length oc) W.order.length (W.order.map str) rfl (owns_kept HOX.out ((Chg.refl [] _).alloc _) (fun _ _ h=>by cases h)) (some ⟨wX.heap.size,0,none⟩) 1 1 [str m.name] rfl rfl (fun _=>⟨wX.heap.size,0,rfl,fun i x hx=>by rw [Nat.zero_add];exact(Blk.new wX #[str m.name] 9).cell i x (by simpa using hx)⟩) (by simp [Value.oneCell']) (by have:=HFW.out;omega) (by have:=HFW.out;unfold maxLen;omega) ?_;intro v7 w7 ho7 hc7 hm7;have hS7:Chg (blk (.slice oa W.order.length oc)) wX w7:=(hS.alloc _).then hc7
     obtain⟨va,vc,rfl⟩:=slice_of_owns ho7;have hb7:=HBX.out.kept hS7 HS2.out;have z7:=hb7.cell 1 _ rfl;have f7:=hb7.frozen 1;obtain⟨w8,hw8⟩ : ∃ x,w7.setCell ⟨bw,1,none⟩ (.slice va (W.order.length + 1) vc)=x:=⟨_,rfl⟩
     have hb8:Blk w8 bw #[.map (some bp),.slice va (W.order.length + 1) vc] 40:=by rw [← hw8];exact hb7.set 1 (.slice va (W.order.length + 1) vc)
     have hc8:Chg [bw] w7 w8:=by rw [← hw8];exact Chg.set1 _ _ _ _
     have HB8:=zh hb8;have HC8:=zh hc8;have HS7:=zh hS7;have HO7:=zh ho7;have HM7:=zh hm7;clear hS hS1 ho7 hc7 hm7 hb7 hb8 hc8;refine And.intro hS7 ?_
     repeat ((with_reducible refine gX ?_);(first|refine wpX_nil ?_|refine sK ?_|refine sM fun _ _=>?_|refine sL (hz:=by first|exact Z1.out|exact Z2.out) fun _ _=>?_|refine sE fun _ _=>?_);go_wp2_with fail)
     refine stepX_ef rfl rfl (fun _ _=>?_)
     change Oper.wp _ (Oper.mk ..) ..
     clear hS7 Z1 Z2 x1 m0;go_wp2_with fail;clear z7 f7 hw8;have hloT : wU.heap.size=wT.heap.size:=HSU.out;have hwT : w.heap.size≤wT.heap.size:=HTW.out.size;have hownlt : ∀ x,Own1 x→x < wT.heap.size:=fun x hx=>by
      rcases HOWN.out x hx with h|h
      ·have:=H.out.lt x (.inl h);omega
      ·exact h.2
     have hzown : ∀ x∈bw :: bp :: blk (.slice oa W.order.length oc),Own1 x:=fun x hx=>by
      rcases List.mem_cons.1 hx with rfl|hx
      ·exact HBW.out
      ·rcases List.mem_cons.1 hx with rfl|hx
       ·exact HOT.out.2.2.2.2.2.1
       ·exact(HOT.out.2.2.2.1 x hx).2
     have hc68:Chg (bw :: bp :: blk (.slice oa W.order.length oc)) w6 w8:=(HCX.out.weak.then (HS7.out.mono (fun x hx=>.inl (List.mem_cons_of_mem _ (List.mem_cons_of_mem _ hx))))).then (HC8.out.mono (fun x hx=>.inl (by simp at hx;simp [hx])))
     have hcV8:Chg (bw :: bp :: blk (.slice oa W.order.length oc)) wV w8:=(HC6.out.mono (fun x hx=>.inl (by simp at hx;simp [hx]))).then hc68
     have hcT8:Chg (bw :: bp :: blk (.slice oa W.order.length oc)) wT w8:=HTV.out.weak.then hcV8
     have hcR8:Chg (bw :: bp :: blk (.slice oa W.order.length oc)) wR w8:=HCV.out.weak.then hcV8
     have hnn : ∀ x,wT.heap.size≤x→x∉bw :: bp :: blk (.slice oa W.order.length oc):=fun x hx hm=>by have:=hownlt x (hzown x hm);omega
     obtain⟨hs1,hs2,hs3⟩:=HOV.out.sep;obtain⟨hbe1,hbe2⟩:=HOT.out.other HBE.out (by decide);have hmv8:Moved wT (.slice oa W.order.length oc) (.slice va (W.order.length + 1) vc):=fun x hx=>(HM7.out x hx).imp id (fun h=>by have:=HTV.out.size;have:=HC6.out.size;have:=HCX.out.size;simp at h;omega)
     have hbelt : be < wT.heap.size:=HBE.out.lt;have hps:=HPS.out;have hbv:=HBV.out;have hc8s:=hcT8.size;have HMORE:=zh (HHT.out.more (Own':=fun x=>Own x∨(w.heap.size≤x∧x < w8.heap.size)) (Gm:=Gm) (lo:=wU.heap.size) (t:=be) (b:=bp') (bv:=bv) HBW.out (fun x hx=>by
       rcases HOWN.out x hx with h|h
       ·exact⟨H.out.dis x h,fun hg=>(HGM.out x hg).2 h⟩
       ·exact⟨fun hg=>by have:=H.out.lt x (.inr hg);omega,fun hg=>by have:=(HGM.out x hg).1;omega⟩) (fun x hx=>by
       rcases hx with h|h|h
       ·have:=hownlt x h;omega
       ·have:=H.out.lt x (.inr h);omega
       ·have:=(HGM.out x h).1;omega) (Nat.le_of_eq hloT) (by
       cases hq:W.M m.name with
       | none=>rfl
       | some x=>have:=HBI.out;rw [hq] at this;cases this) HGO.out.few HOT.out hcT8 HB8.out (((HM6.out.kept HCX.out (by simp)).kept HS7.out hs3).kept HC8.out (by simpa using hs1.symm)) (by
       have ho8:=owns_kept HO7.out HC8.out (fun g hg hm=>by
        simp at hm
        subst hm;rcases HM7.out g hg with h|h
        ·exact hs2 h
        ·have:=HTV.out.size;have:=HC6.out.size;have:=HCX.out.size;have:=hownlt g HBW.out;simp at h;omega)
       simpa using ho8) hmv8 (HPR.out.kept hcR8 (hnn _ (by omega))) (HMD.out.kept hcT8 (fun x hx hf=>by
       rcases HOWN.out x (hzown x hx) with h|h
       ·exact(HGM.out x hf).2 h
       ·have:=(HGM.out x hf).1;omega)) (VarsAt_keptZ HVA.out hcR8 (fun x hx=>by have:=hownlt x (hzown x hx);omega) hbv) ⟨hps.1,hbv⟩ ⟨by omega,by omega,fun hm=>by
       rcases hmv8 be hm with h|h
       ·exact hbe2 h
       ·omega⟩ (fun x hx=>(HOWN.out x hx).imp id (fun h=>⟨h.1,by omega⟩)) (fun x h1 h2=>.inr ⟨by omega,h2⟩))
     obtain⟨L',hL'⟩ : ∃ x,x=(L).more m Gm wU.heap.size w8.heap.size be bp' dim arrs:=⟨_,rfl⟩
     rw [← hL'] at HMORE;have hLM:L'.M=setM W.M m:=HMORE.out.M;have hpb:L'.pb m.name=bp':=by rw [hL'];simp [Lay.more]
     have hLG : ∀ x,Gm x→L'.Fix x:=fun x hx=>by rw [hL'];exact .inr (.inl hx)
     have hLbe : ¬ L'.Fix be∧be∉L'.arrs:=by
      have hnO : ¬ Own1 be:=HNB.out;rw [hL'];refine⟨fun h=>?_,fun h=>?_⟩
      ·rcases h with h|h|h
       ·rcases HHT.out.fix be h with h|h
        ·exact hnO h
        ·have:=H.out.lt be (.inr h);have:=HLT.out;omega
       ·have:=(HGM.out be h).1;have:=HLT.out;omega
       ·omega
      ·rcases List.mem_append.1 h with h|h
       ·exact hnO (HHT.out.arrs be h)
       ·have:=(HVA.out.low h).1;omega
     obtain⟨ob,hob⟩ : ∃ o,o=(fns L'.M g).b 0 m.name [] m.body ⟨fuel,[],startV W.vs m⟩:=⟨_,rfl⟩
     have hrr:=HR.out;rw [loadW,← HBI.out,if_neg (by simp),← HOC.out] at hrr;simp only at hrr;rw [if_neg HFL.out,← hLM,← hob] at hrr;have hnst : ob ≠ .stuck:=fun h=>by rw [h] at hrr;cases hrr
     have hnd : doneO ob ≠ .stuck:=fun h=>by cases ob <;> first|exact hnst rfl|cases h
     have hbm8:=HBM.out.kept hcT8 (fun hm=>by
      rcases List.mem_cons.1 hm with h|hm
      ·have:=HLT.out;omega
      ·rcases List.mem_cons.1 hm with h|hm
       ·exact(HOT.out.other HBM.out (by decide)).1 h
       ·exact(HOT.out.other HBM.out (by decide)).2 hm)
     have hbt8:=(HBR.out.kept hcR8 (hnn _ (by omega))).cell 0 _ rfl;have hbe8:=HBE.out.kept hcT8 (fun hm=>by
      rcases List.mem_cons.1 hm with h|hm
      ·have:=HLT.out;omega
      ·rcases List.mem_cons.1 hm with h|hm
       ·exact hbe1 h
       ·exact hbe2 hm)
     obtain⟨vi8,vv8,vp8,vb8,he8,_,_,_,hsl8⟩:=HMD.out.kept hcT8 (fun x hx hf=>by
       rcases HOWN.out x (hzown x hx) with h|h
       ·exact(HGM.out x hf).2 h
       ·have:=(HGM.out x hf).1;omega)
     cases he8
     have HGS:=zh (goes_any2 41 (ptr bt) (ptr bm) (fun args w=>rfl) (doneO ob) (fun _ _ e=>e = .returned (.tuple #[])) (fun _ _ _ h=>h) L' (startV W.vs m) fuel HFU.out [] w8 HMORE.out.home (fun x hx=>by cases hx) hnd (fun w1 br hbr hc1 hg=>by
      rw [hob];exact load_does g hg (by show L'.M m.name=some m;rw [hLM];simp [setM]) ((hsl8.mono hLG).kept hc1 (by simp)) HGO.out.few.body.1 HGO.out.few.body.2 (by show w1.cell? _=some (ptr (L'.pb m.name));rw [hpb];exact hc1.cellSome hbt8 (by simp)) (hbm8.kept hc1 (by simp)) (by show (fns L'.M g).b 0 m.name [] m.body _≠_;rw [← hob];exact hnst)))
     rw [HMORE.out.bw_] at HGS;have HOB:=zh hob;have HRRR:=zh hrr;have HNST:=zh hnst;have HLBE:=zh hLbe;have HBE8:=zh hbe8;have HLM:=zh hLM;have HT8:=zh hcT8;have HZO:=zh hzown;clear hloT hwT hownlt hzown hc68 hcV8 hcT8 hcR8 hnn hs1 hs2 hs3 hbe1 hbe2 hmv8 hbelt hps hbv hc8s hL' hLM hpb hLG hLbe hob hrr hnst hnd hbm8 hbt8 hbe8 hsl8;refine HGS.out.mono ?_;rintro _ w9 ⟨ve,rfl,hev,hh9,hc9,_⟩;obtain⟨eov,rfl,heo,hef⟩:=hev;obtain⟨ea,ec,rfl⟩:=slice_of_owns heo;have HH9:=zh hh9;have HC9:=zh hc9;have HEO:=zh heo;have HEF:=zh hef;have hbe9:=HBE8.out.kept hc9 (fun hm=>HLBE.out.2 (by simpa using hm));have y0:=hbe9.cell 0 _ rfl;have y1:=hbe9.cell 1 _ rfl;have f0:=hbe9.frozen 0;have f1:=hbe9.frozen 1;have HBE9:=zh hbe9;clear hh9 hc9 heo hef hbe9;go_wp2_with fail;obtain⟨wE,hwE,hbE,hcE⟩:=setE (endOf (doneO ob)) (.slice ea (stOf ⟨fuel,[],startV W.vs m⟩ (doneO ob)).out.length ec) HBE9.out;rw [hwE];have u0:=hbE.cell 0 _ rfl;have u1:=hbE.cell 1 _ rfl;refine bodyPost_ret (v:=.tuple #[.agg #[num (endOf (doneO ob)),.slice ea (stOf ⟨fuel,[],startV W.vs m⟩ (doneO ob)).out.length ec],.nilIface]) (by simp [results,Tryz.results14,go_sem,u0,u1]) rfl ?_;have hr' : r=(⟨setM W.M m,(stOf ⟨fuel,[],startV W.vs m⟩ (doneO ob)).vs,W.order ++ [m.name]⟩,endOf (doneO ob),(stOf ⟨fuel,[],startV W.vs m⟩ (doneO ob)).out,.fine):=by
      have hrr:=HRRR.out;rw [HLM.out] at hrr;cases ob with
      | stuck=>cases hrr
      | ok x s=>cases hrr;rfl
      | stop way s=>cases hrr;rfl
     have hlay:=HMORE.out.home.lay w8.heap.size (Nat.le_refl _);have hse : w.heap.size≤w8.heap.size∧w8.heap.size≤wE.heap.size:=⟨by have:=HTW.out.size;have:=HT8.out.size;omega,by have:=HC9.out.size;have:=hcE.size;omega⟩;have h9:=((HMORE.out.went HH9.out HC9.out (fun x hx hf=>(hlay.arrs (show x∈L'.arrs by simpa using hx)).1 hf)).keptF hcE (fun x hx=>by simp at hx;subst hx;exact HLBE.out)).mono (Own':=More Own w wE) (fun x hx=>hx.imp id (fun h=>⟨h.1,by omega⟩));have hbew : w.heap.size≤be∧be < w8.heap.size:=⟨by have:=HLT.out;omega,HBE8.out.lt⟩;rw [hr'];refine⟨_,_,rfl,⟨_,rfl,owns_kept HEO.out hcE (fun g hg hm=>?_),fun g hg=>?_⟩,rfl,⟨.inl H.out.own,fun x hx=>?_,fun x hx hx'=>?_,fun q m' hq=>?_,?_,.inr ⟨L',h9⟩⟩,?_⟩
     ·have:=HEF.out g hg;simp at hm;omega
     ·have:=HEF.out g hg;omega
     ·rcases hx with(hx|hx)|hx|hx
      ·have:=H.out.lt x (.inl hx);omega
      ·exact hx.2
      ·have:=H.out.lt x (.inr hx);omega
      ·have:=(HGM.out x hx).1;omega
     ·rcases hx with hx|hx <;> rcases hx' with hx'|hx'
      ·exact H.out.dis x hx hx'
      ·exact(HGM.out x hx').2 hx
      ·have:=H.out.lt x (.inr hx');omega
      ·have:=(HGM.out x hx').1;omega
     ·simp only [setM] at hq
      split at hq
      ·next e=>cases hq;exact⟨HGO.out,e.symm⟩
      ·exact H.out.good q m' hq
     ·have:=H.out.few;have:=HFL.out;simp;omega
     ·have hin : ∀ (l:List Nat) (b:World),w.heap.size≤b.heap.size → ∀ x∈l,x∈l.filter (fun x=>decide (x < w.heap.size))∨w.heap.size≤x:=fun l b hb x hx=>by
       by_cases hlt : x < w.heap.size
       ·exact .inl (List.mem_filter.2 ⟨hx,by simpa using hlt⟩)
       ·exact .inr (by omega)
      have hsub : ∀ x∈(bw :: bp :: blk (.slice oa W.order.length oc)) ++ L'.arrs,x∈((bw :: bp :: blk (.slice oa W.order.length oc)) ++ L'.arrs).filter (fun x=>decide (x < w.heap.size))∨w.heap.size≤x:=hin _ w (Nat.le_refl _)
      refine⟨((bw :: bp :: blk (.slice oa W.order.length oc)) ++ L'.arrs).filter (fun x=>decide (x < w.heap.size)),?_,fun x hx=>?_⟩
      ·refine(((HTW.out.mono (fun x hx=>?_)).trans HT8.out (fun x hx=>hsub x (List.mem_append_left _ hx))).trans HC9.out (fun x hx=>hsub x (List.mem_append_right _ (by simpa using hx)))).trans hcE (fun x hx=>.inr (by simp at hx;omega))
       simp at hx
       subst hx;exact hsub x (by simp)
      ·obtain⟨hx1,hx2⟩:=List.mem_filter.1 hx
       have hx2 : x < w.heap.size:=by simpa using hx2
       rcases List.mem_append.1 hx1 with hx1|hx1
       ·rcases HOWN.out x (HZO.out x hx1) with h|h
        ·exact h
        ·omega
       ·rcases HMORE.out.arrs x hx1 with h|h
        ·exact h
        ·omega
end Go.Proofs.YtechofppmnnomaaGreatDoor
namespace Go.Mq.Run
open Go Go.RowKit Go.Mq Go.Mq.Tree
theorem procsAt_own {w:World} {F:Nat→Prop} {l:List Proc} {bb off n c:Nat} (h:ProcsAt w F l (.slice (some ⟨bb,off,none⟩) n c)) (hl : 0 < l.length):F bb:=by
 obtain⟨a,c',cs,he,_,hr,hp⟩:=h;cases he
 cases l with
 | nil=>simp at hl
 | cons y r=>
  obtain⟨c1,c2,rfl,⟨_,_,_,rfl,_⟩,_⟩:=hp;exact hr.own (by simp) _ rfl
end Go.Mq.Run
namespace Go.Proofs.YtechofppmnnomaaGreatDoor
open Go Go.RowKit Go.Mq Go.Mq.Tree Go.Mq.Sym Go.Mq.Run
open Go.Mq.Check (FewM FewS FewE argsN check Out)
open Go.Mq.Plan (MapIs getM putM run_getM run_getMok run_getNok run_putM)
set_option maxRecDepth 100000
set_option maxHeartbeats 4000000
theorem call_does (g:Nat) {L:Lay} {q:Nm} {m:Mod} {p:Proc} {k:Nat} {args:List Int} {a:Option Addr} {c:Nat} {s:St} {w:World} {b13 b15 b8 b11:Nat} {u:Value} (h:Going w L 0 s nils) (hq:L.M q=some m) (hk : m.procs[k]?=some p)
  (h13:Blk w b13 #[ptr (L.pb q)] 94) (h15:Blk w b15 #[num k] 3) (h8:Blk w b8 #[.slice a args.length c] 41) (h11:Blk w b11 #[u] i64T) (hn11 : b11∉mutL L nils∧¬ L.Fix b11)
  (hrow:Row w (fun b=>b∉mutL L nils) a (ints args)) (hal : args.length≤2000) (ho : (fns L.M g).c 0 q p args s ≠ .stuck) (X:List Nat) (hX : ∀ n s',(fns L.M g).c 0 q p args s = .ok n s'→X=[b11]) :
  Calls Tryz.prog 66 #[ptr L.br,ptr b13,ptr b15,ptr b8,ptr b11] w (Ran w L 0 nils X (fun w' n e=>e = .returned (.tuple #[])∧Blk w' b11 #[num n] i64T) ((fns L.M g).c 0 q p args s)):=by
 obtain⟨tgt,ht⟩ : ∃ o,o=(fns L.M g).c 0 q p args s:=⟨_,rfl⟩
 obtain⟨wD,hwD⟩ : ∃ x,x=w.drew:=⟨_,rfl⟩
 have hcD:Chg [] w wD:=by rw [hwD];exact(Chg.refl [] w).drew
 have hg:=h.kept hcD;obtain⟨_,bp,pes,_,_,_,_,hall⟩:=hg.stat;have hpart:=hall q;rw [hq] at hpart;obtain⟨_,hown,hfew,ai,ci,av,cv,ap,cp,ab,cb,bv,es,h3,h4,_⟩:=hpart;obtain⟨vi,vv,vp,vb,hve,_,_,hpr,_⟩:=h4;cases hve
 obtain⟨bb,off,cc,vvp,vvv,vvb,hsl,hcc,d0,d1,d2,d3,d4,d5,hn1,hn2,hn3⟩:=procsAt_cells hpr hk;simp only [Value.slice.injEq,true_and] at hsl;obtain⟨rfl,rfl⟩:=hsl;have hkl:=(List.getElem?_eq_some_iff.1 hk).1;have hmem : p∈m.procs:=List.mem_of_getElem? hk;have hpl:=hfew.procs;obtain⟨hb1,hb2⟩:=hfew.bodies p hmem;obtain⟨hp1,hp2⟩:=hfew.params p hmem;have hbbF:L.Fix bb:=procsAt_own hpr (by omega);have hZ : ∀ x,L.Fix x→x∉b11 :: mutL L nils:=fun x hx hm=>by
  rcases List.mem_cons.1 hm with rfl|hm
  ·exact hn11.2 hx
  ·exact hg.notfix x hm hx
 have hT : ∀ {b:Nat} {cs:Array Value} {t:TypeId},Blk wD b cs t→t≠i64T→t≠160→b∉b11 :: mutL L nils:=fun {b cs t} hb h1 h2 hm=>by
  rcases List.mem_cons.1 hm with rfl|hm
  ·have:=h11.kept hcD (by simp);unfold Blk at this hb;rw [this] at hb;simp at hb;exact h1 hb.2.symm
  ·exact hg.notblk hb h1 h2 hm
 have k13:=h13.kept hcD (by simp);have k15:=h15.kept hcD (by simp);have k8:=h8.kept hcD (by simp);have k11:=h11.kept hcD (by simp);have e13:=k13.cell 0 _ rfl;have e15:=k15.cell 0 _ rfl;have e8:=k8.cell 0 _ rfl;have e3:=h3.cell 3 _ rfl;have Z1:=zh (Zone.of (X:=b11 :: mutL L nils) (w0:=wD) e13 (hT k13 (by decide) (by decide)));have Z2:=zh (Zone.of (X:=b11 :: mutL L nils) (w0:=wD) e15 (hT k15 (by decide) (by decide)));have Z3:=zh (Zone.of (X:=b11 :: mutL L nils) (w0:=wD) e8 (hT k8 (by decide) (by decide)));have Z4:=zh (Zone.of (X:=b11 :: mutL L nils) (w0:=wD) e3 (hT h3 (by decide) (by decide)));have Z5:=zh (Zone.of (X:=b11 :: mutL L nils) (w0:=wD) d0 (hZ bb hbbF));have HCC:=zh (con_c g hg hq hn1 hn2 hn3 hb1 hb2 (by omega) (by omega) (c:=c) (hrow.kept hcD (by simp)) hal ho);rw [← ht] at HCC ho hX ⊢;have HX:=zh hX;clear hX;have HG:=zh hg;have HCD:=zh hcD;have HK11:=zh k11;have HN11:=zh hn11;clear h hg hq hk h13 h15 h8 h11 hn11 hrow hal hcD hall hown hfew h3 hpr hn1 hn2 hn3 hmem hpl hb1 hb2 hp1 hp2 hbbF hZ hT k13 k15 k8 k11 ht
 go_enter Tryz.func66,Tryz.ntmps66
 go_wp2_with fail;refine wp_region_Q isEffL (b11 :: mutL L nils) rfl (by kernel_rfl) ?_;rw [← hwD];clear hwD;have hS:Chg (b11 :: mutL L nils) wD wD:=Chg.refl _ _
 repeat ((with_reducible show wpQ _ _ _ _ _ _ _ _ _);(first|refine wpQ_nil ?_|refine wpQ_skip rfl ?_|refine wpQ_mv rfl rfl (by kernel_rfl) (fun _ _=>?_)|refine wpQ_ldC rfl rfl rfl (by first|exact Z1.out|exact Z2.out|exact Z3.out|exact Z4.out|exact Z5.out) (by assumption) (fun _ _=>?_));go_wp2_with fail)
 refine wpQ_ef rfl rfl (fun K Q hK hQ=>?_);go_wp2_with fail;refine HCC.out.mono ?_;rintro e w2 ⟨ov2,hm,hc,hres⟩;have HM2:=zh hm;have HC2:=zh hc;have HC2':=zh (show Chg (b11 :: mutL L nils) wD w2 from hc.mono (fun x hx=>.inl (List.mem_cons_of_mem _ (by simpa using hx))));have HK2:=zh (HK11.out.kept hc (by simpa using HN11.out.1));cases tgt with
 | stuck=>exact absurd rfl ho
 | stop way s2=>
  obtain⟨⟨older,hol,rfl⟩,d',hg⟩:=hres;have HG2:=zh hg;clear hm hc hg hS;refine hQ _ _ _ (fun a' ha=>?_);refine⟨ha,?_⟩;exact Ran.after (Ran.ended HM2.out (by simpa using HC2.out) HG2.out (Chg.refl _ _) ⟨older,hol,rfl⟩) HCD.out
 | ok v s2=>
  obtain⟨rfl,hg⟩:=hres;have hXX:=HX.out v s2 rfl;subst hXX;have HG2:=zh hg;have y0:=HK2.out.cell 0 _ rfl;have f0:=HK2.out.frozen 0;clear hm hc hg hS;go_wp2_with fail;refine⟨HC2'.out,?_⟩;have hS:=HC2'.out
  repeat ((with_reducible show wpQ _ _ _ _ _ _ _ _ _);(first|refine wpQ_nil ?_|refine wpQ_skip rfl ?_|refine wpQ_mv rfl rfl (by kernel_rfl) (fun _ _=>?_)|refine wpQ_ldC rfl rfl rfl (by first|exact Z1.out|exact Z2.out|exact Z3.out|exact Z4.out|exact Z5.out) (by assumption) (fun _ _=>?_));go_wp2_with fail)
  refine wpQ_ef rfl rfl (fun K Q hK hQ=>?_);clear hS;obtain⟨w3,hw3⟩ : ∃ x,w2.setCell ⟨b11,0,none⟩ (num v)=x:=⟨_,rfl⟩
  have hc3:Chg [b11] w2 w3:=by rw [← hw3];exact Chg.set1 _ _ _ _
  have hb3:Blk w3 b11 #[num v] i64T:=by rw [← hw3];simpa using HK2.out.set 0 (num v)
  have HC3:=zh hc3;have HB3:=zh hb3;clear hc3 hb3;go_wp2_with fail;refine⟨HC2'.out.then (HC3.out.mono (fun x hx=>.inl (by simp at hx;simp [hx]))),?_⟩;refine wpQ_nil ?_;go_wp2_with fail;refine bodyPost_end (results_none rfl _ _ _) rfl ?_;have hnm:=notmut_moved (L:=L) HM2.out HK11.out.lt HN11.out.1;have hR:Ran wD L 0 nils [b11] (fun w' n e=>e = .returned (.tuple #[])∧Blk w' b11 #[num n] i64T) (O.ok v s2) (.returned (.tuple #[])) w3:=⟨ov2,HM2.out,(HC2.out.mono (fun x hx=>.inl (by simp at hx;simp [hx]))).then (HC3.out.mono (fun x hx=>.inl (by simp at hx;simp [hx]))),⟨rfl,HB3.out⟩,HG2.out.aside HC3.out (fun x hx=>by simp at hx;subst hx;exact⟨hnm,HN11.out.2⟩)⟩;exact hR.after HCD.out
end Go.Proofs.YtechofppmnnomaaGreatDoor
namespace Go.Proofs.YtechofppmnnomaaGreatDoor
open Go Go.RowKit Go.Mq Go.Mq.Tree Go.Mq.Sym Go.Mq.Check Go.Mq.Run
set_option maxRecDepth 100000
set_option maxHeartbeats 2000000
theorem cisp_any (x:Proc) (n:List UInt8) (pos:Int) (a1:Option Addr) (k1:Nat) (a2:Option Addr) (n2 k2:Nat) (a3:Option Addr) (n3 k3:Nat) (b0:Nat) (w:World) (hx : w.cell? ⟨b0,0,none⟩=some (str n)) :
  Calls Tryz.prog 65 #[.agg #[str x.name,.int .i64 pos,.bool x.seen,.slice a1 x.params.length k1,.slice a2 n2 k2,.slice a3 n3 k3],ptr b0] w (fun e w'=>e = .returned (.bool (x.name == n && x.seen))∧Chg [] w w'):=by
 have hx':=((Chg.refl [] w).alloc (.cells #[str x.name,.int .i64 pos,.bool x.seen,.slice a1 x.params.length k1,.slice a2 n2 k2,.slice a3 n3 k3] 72)).cellSome hx (by simp);have n0 : b0≠w.heap.size:=by have:=lt_of_cell hx;simp at this;omega
 have z:=Blk.new w #[str x.name,.int .i64 pos,.bool x.seen,.slice a1 x.params.length k1,.slice a2 n2 k2,.slice a3 n3 k3] 72;have z0:=z.cell 0 _ rfl;have z2:=z.cell 2 _ rfl;clear hx z;obtain⟨sb,hsb⟩ : ∃ b,b=x.seen:=⟨_,rfl⟩
 rw [← hsb] at z2 z0 hx' ⊢;clear hsb;cases hq : (x.name == n) <;> cases sb
 all_goals
  go_enter Tryz.func65,Tryz.ntmps65
  go_wp2_with fail
  all_goals go_ret
  all_goals exact⟨rfl,(Chg.refl _ _).alloc _⟩
theorem cindexp_any (l:List Proc) (hl : l.length≤1000) (n:List UInt8) (b0:Nat) (F:Nat→Prop) (v:Value) (w:World) (h:ProcsL w F l v) (hx : w.cell? ⟨b0,0,none⟩=some (str n)) :
  Calls Tryz.prog 57 #[v,.func (.func 65) #[] #[ptr b0]] w (fun e w'=>At1 l (fun g=>g.name == n && g.seen) e∧Chg [] w w'):=by
 have HPR:=zh h;obtain⟨a,c,cs,rfl,hac,hrow,hps⟩:=h;have HX:=zh hx;clear hrow hx hps
 go_enter Tryz.func57,Tryz.ntmps57
 go_wp2_with fail
 go_loopw [5,8] (fun _ i wr=>∃ k:Nat,i = .int .i64 k∧k≤l.length∧Chg [] w wr ∧ ∀ (i:Nat) (x:Proc),i < k→l[i]?=some x→(x.name == n && x.seen)=false) (fun _ i _=>l.length - (intOf i).toNat)
 case atStart=>exact⟨0,rfl,Nat.zero_le _,Chg.refl _ _,fun i x hi=>by omega⟩
 case round=>
  obtain⟨k,rfl,hk,hc,hno⟩:=hrel;have HNO:=zh hno;have HC:=zh hc;clear hno hc;by_cases hlt : k < l.length
  ·obtain⟨s,hs⟩ : ∃ s,l[k]?=some s:=⟨l[k],List.getElem?_eq_getElem hlt⟩
   obtain⟨bb,off,cc,pos,a1,k1,a2,n2,k2,a3,n3,k3,hv,_,d0,d1,d2,d3,d4,d5⟩:=proc_cells (HPR.out.kept HC.out (by simp)) hs;simp only [Value.slice.injEq,true_and] at hv;obtain⟨rfl,rfl⟩:=hv;have HS:=zh hs;have HI:=zh (cisp_any s n pos a1 k1 a2 n2 k2 a3 n3 k3 b0 wr (HC.out.cellSome HX.out (by simp)));clear hs;cases hq : (s.name == n && s.seen) with
   | true=>
    rw [hq] at HI;have HR:=zh (show l.find? (fun g=>g.name == n && g.seen)=some s from find_at HS.out hq HNO.out);clear hq;go_wp2_with fail;refine HI.out.mono ?_;rintro _ w2 ⟨rfl,hq⟩;have HQ:=zh (HC.out.then hq);clear hq;go_wp2_with fail;go_ret
    refine⟨?_,HQ.out⟩;rw [At1,HR.out];exact⟨k,HS.out,rfl⟩
   | false=>
    rw [hq] at HI;have HN:=zh hq;clear hq;go_wp2_with fail;refine HI.out.mono ?_;rintro _ w2 ⟨rfl,hq⟩;have HQ:=zh (HC.out.then hq);clear hq;go_wp2_with fail;refine⟨⟨k + 1,by go_num,by omega,HQ.out,fun i x hi hx=>?_⟩,by simp [intOf];omega⟩;by_cases he : i < k
    ·exact HNO.out i x he hx
    ·have : i=k:=by omega
     subst this;rw [HS.out] at hx;cases hx
     exact HN.out
  ·have HR:=zh (show l.find? (fun g=>g.name == n && g.seen)=none from find_no fun i x hx=>HNO.out i x (by have:=(List.getElem?_eq_some_iff.1 hx).1;omega) hx)
   go_wp2_with fail;go_ret
   exact⟨by rw [At1,HR.out] <;> rfl,HC.out⟩
end Go.Proofs.YtechofppmnnomaaGreatDoor
