/- Some texts in one. -/
import Derived.Defers
import Derived.Recover
import Derived.Test.YtechofppmnnomaaGreatDoorA18
namespace Go.Mq.Check
open Go Go.RowKit Go.Mq Go.Mq.Tree Go.Mq.Sym
def abw (w:World) (o:Out) (e:Ending) (w':World):Prop:=ae [] w w'∧match o with
 | .fine=>e = .returned .nilIface
 | .plain n=>e = .returned (.iface 46 (.int .i64 n))
 | .at_ en p=>∃ b,e = .returned (.iface 140 (ptr b))∧w.heap.size≤b∧ag w' b #[.int .i64 en,.int .i64 p] 142
end Go.Mq.Check
namespace Go.Proofs.YtechofppmnnomaaGreatDoor
open Go Go.RowKit Go.Mq Go.Mq.Tree Go.Mq.Sym Go.Mq.Check
set_option maxRecDepth 100000
set_option maxHeartbeats 8000000
theorem abx (be:Nat) (w:World):CallsD Tryz.prog 77 #[ptr be] .returning w fun e u' w'=>
   e = .returned (.tuple #[])∧u' = .returning∧w'=w:=by
 refine callsD_of_wpS Tryz.func77 rfl fun c₀ cs hu=>?_
 rw [show (#[ptr be] ++ Array.replicate (Tryz.f77.ntmps - (#[ptr be] : Array Value).size) undef:Array Value) = #[ptr be,undef,undef,undef,undef,undef,undef,undef,undef,undef,undef,undef,undef,undef,undef,undef,undef] from rfl]
 apply wpS_seq
 apply wpS_region
 simp [wpOpsS,go_sem,recoverD,hu,Exit.thenS]
 refine wpS_of_wp ?_;go_wp2_with fail;exact⟨rfl,.returning,by cases c₀;simp_all,.tuple #[],results_none rfl _ _ _,rfl,rfl,rfl⟩
theorem aby (be b:Nat) (e0:Value) (w:World) (he:ag w be #[e0] 34) :
  CallsD Tryz.prog 77 #[ptr be] (.panicking [{ v:=.iface 149 (.agg #[.iface 140 (ptr b)]),recovered:=false }]) w fun e u' w'=>
   e = .returned (.tuple #[])∧u' = .panicking [{ v:=.iface 149 (.agg #[.iface 140 (ptr b)]),recovered:=true }]∧ae [be] w w'∧ag w' be #[.iface 140 (ptr b)] 34:=by
 have yA : ∀ w,(Instr.typeAssert (.iface 149 (.agg #[.iface 140 (ptr b)])) 20 149 true).run Tryz.prog w = .ok (.tuple #[.agg #[.iface 140 (ptr b)],.bool true]) w:=fun _=>rfl
 refine callsD_of_wpS Tryz.func77 rfl fun c₀ cs hu=>?_
 rw [show (#[ptr be] ++ Array.replicate (Tryz.f77.ntmps - (#[ptr be] : Array Value).size) undef:Array Value) = #[ptr be,undef,undef,undef,undef,undef,undef,undef,undef,undef,undef,undef,undef,undef,undef,undef,undef] from rfl]
 apply wpS_seq
 apply wpS_region
 simp [wpOpsS,go_sem,recoverD,hu,Exit.thenS]
 refine wpS_of_wp ?_;have he':=he.kept ((ae.refl [] w).alloc (.cells #[.iface 140 (ptr b)] 149)) (by simp);have hx':=ag.new w #[.iface 140 (ptr b)] 149;have hc':ae [be] w (w.alloc (.cells #[.iface 140 (ptr b)] 149)):=(ae.refl _ w).alloc _;obtain⟨w1,hw1⟩ : ∃ x,w.alloc (.cells #[.iface 140 (ptr b)] 149)=x:=⟨_,rfl⟩
 rw [hw1] at he' hx' hc';have g0:=he'.frozen 0;have XM:=he'.cell 0 _ rfl;have x0:=hx'.cell 0 _ rfl;have gu:ae [be] w1 (w1.setCell ⟨be,0,none⟩ (.iface 140 (ptr b))):=ae.set1 _ _ _ _;have HE:=zh (show ag (w1.setCell ⟨be,0,none⟩ (.iface 140 (ptr b))) be #[.iface 140 (ptr b)] 34 by simpa using he'.set 0 (.iface 140 (ptr b)));have HC:=zh (hc'.then gu);clear he he' hx' hc' gu;go_wp2_with fail;refine⟨rfl,.panicking [{ v:=.iface 149 (.agg #[.iface 140 (ptr b)]),recovered:=true }],rfl,.tuple #[],results_none rfl _ _ _,rfl,rfl,?_⟩;exact⟨HC.out,HE.out⟩
theorem Rj (tmps:Array Value) (be:Nat) (ev:Value) (w:World) (h4 : tmps[4]?.getD undef=ptr be) (he:ag w be #[ev] 34) :
  (results Tryz.f37 tmps).run Tryz.prog w = .ok ev w:=by
 have e0:=he.cell 0 _ rfl;simp [results,Tryz.results37,h4,go_sem,e0]
theorem G6 (tmps:Array Value) (be:Nat) (ev:Value) (w:World) (R:Ending→World→Prop) (h4 : tmps[4]?.getD undef=ptr be) (he:ag w be #[ev] 34)
  (hR:R (.returned ev) w):Leaves Tryz.prog Tryz.f37 tmps R [{ target:=.fn (.func 77) #[ptr be],args:=#[] }] .returning w:=by
 refine leaves_cons (f:=77) (args:=#[ptr be]) (by simp) (by simp [go_sem]) ?_;refine(abx be w).mono ?_;rintro e u' w'' ⟨rfl,rfl,rfl⟩;exact⟨_,Rj tmps be ev w'' h4 he,hR⟩
theorem DZ (tmps:Array Value) (be b:Nat) (ev:Value) (w:World) (R:Ending→World→Prop) (h4 : tmps[4]?.getD undef=ptr be) (he:ag w be #[ev] 34)
  (hR : ∀ w',ae [be] w w'→R (.returned (.iface 140 (ptr b))) w'):Leaves Tryz.prog Tryz.f37 tmps R [{ target:=.fn (.func 77) #[ptr be],args:=#[] }] (.panicking [{ v:=.iface 149 (.agg #[.iface 140 (ptr b)]),recovered:=false }]) w:=by
 refine leaves_cons (f:=77) (args:=#[ptr be]) (by simp) (by simp [go_sem]) ?_;refine(aby be b ev w he).mono ?_;rintro e u' w'' ⟨rfl,rfl,hc,he'⟩;exact⟨_,Rj tmps be _ w'' h4 he',hR w'' hc⟩
end Go.Proofs.YtechofppmnnomaaGreatDoor
namespace Go.Mq.Check
open Go Go.RowKit Go.Mq Go.Mq.Tree Go.Mq.Sym
theorem Rk {α:Type} {l:List α} {k:Nat} {x : α} (h : l[k]?=some x) : l.take (k + 1)=l.take k ++ [x]:=by
 rw [List.take_add_one,h];rfl
theorem drop_cons {α:Type} {l:List α} {k:Nat} {x : α} (h : l[k]?=some x) : l.drop k=x :: l.drop (k + 1):=by
 obtain⟨hk,he⟩:=List.getElem?_eq_some_iff.1 h;rw [← he,← List.drop_eq_getElem_cons hk]
theorem Rl {w:World} {F:Nat→Prop} {a:Option Addr} {c:Nat} {l:List (List UInt8)} (h:Row w F a (l.map str)) (hc : l.length≤c) {k:Nat} (hk : k≤l.length):eF w F (l.take k) (.slice a k c):=by
 refine⟨a,c,by rw [List.length_take,Nat.min_eq_left hk],by rw [List.length_take];omega,fun h0=>?_,fun h0 p hp=>h.own (by simp at h0 ⊢;omega) p hp⟩;obtain⟨b,o,ha,hcell⟩:=h.at_ (by simp at h0 ⊢;omega);refine⟨b,o,ha,fun i v hv=>hcell i v ?_⟩;rw [List.getElem?_map] at hv ⊢;rw [List.getElem?_take] at hv;split at hv
 ·exact hv
 ·cases hv
theorem La {w:World} {F:Nat→Prop} : ∀ {l:List aX} {cs:List Value} {k:Nat} {x:aX},kF w F l cs→l[k]?=some x → ∃ cs1 c cs',cs=cs1 ++ (c ++ cs')∧cs1.length=k * 6∧pR w F x c
 | [],_,_,_,_,hk=>by simp at hk
 | y :: r,_,0,x,h,hk=>by
  obtain⟨c1,c2,rfl,h1,h2⟩:=h;simp at hk;subst hk
  exact⟨[],c1,c2,rfl,rfl,h1⟩
 | y :: r,_,k + 1,x,h,hk=>by
  obtain⟨c1,c2,rfl,⟨_,_,_,rfl,_⟩,h2⟩:=h;obtain⟨cs1,c,cs',rfl,hl,hp⟩:=La h2 (by simpa using hk);exact⟨_ ++ cs1,c,cs',by rw [List.append_assoc],by simp [hl];omega,hp⟩
def D5 (m:Mod) (seen:List UInt8→Option (List Sy)):eP:=((fq [] (m.vars.map (fun g=>(g.name,g.pos)) ++ m.procs.map fun x=>(x.name,x.pos))).or (eX m seen m.procs)).or (Check.aN ⟨m.imports,seen,[],m.vars,m.procs⟩ m.body)
theorem Lb {m:Mod} {seen:List UInt8→Option (List Sy)} {e:Nat} (h : gY m.name seen [] m.imports=some e) : check m seen = .plain e:=by rw [check,h]
theorem abz {m:Mod} {seen:List UInt8→Option (List Sy)} (h : gY m.name seen [] m.imports=none) : check m seen = .of (D5 m seen):=by rw [check,h];rfl
end Go.Mq.Check
namespace Go.Proofs.YtechofppmnnomaaGreatDoor
open Go Go.RowKit Go.Mq Go.Mq.Tree Go.Mq.Sym Go.Mq.Check
set_option maxRecDepth 100000
set_option maxHeartbeats 8000000
theorem Rm (m:Mod) (hm:fG m) (seen:List UInt8→Option (List Sy)) (F:Nat→Prop) (v vm:Value) (w:World) (hF : ∀ x,F x→x < w.heap.size) (hmod:kG w F m v) (hs:rQ w F seen vm) :
  Calls Tryz.prog 37 #[v,vm] w (abw w (check m seen)):=by
 have pU : ∀ (fn:Fn) (first cap:Array Value) (w:World),(Instr.makeFunc fn first cap).run Tryz.prog w = .ok (.func fn first cap) w:=fun _ _ _ _=>rfl
 have hmm:=@run_makeMap Tryz.prog;obtain⟨ov,rfl⟩ : ∃ ov,vm = .map ov:=by
  rcases hs with⟨h,_⟩|⟨b,_,h,_⟩
  ·exact⟨_,h⟩
  ·exact⟨_,h⟩
 obtain⟨vi,vv,vp,vb,rfl,⟨ai,ci,rfl,hi1,hi2⟩,⟨av,cv,rfl,hv1,hv2⟩,⟨ap,cp,tJ,rfl,hp1,hp2,hp3⟩,⟨ab,cb,Bg,rfl,hb1,hb2,hb3⟩⟩:=hmod;obtain⟨wm,G7⟩ : ∃ x,w.alloc (.cells #[str m.name,.slice ai m.imports.length ci,.slice av m.vars.length cv,.slice ap m.procs.length cp,.slice ab m.body.len cb] 32)=x:=⟨_,rfl⟩
 have hmb:=ag.new w #[str m.name,.slice ai m.imports.length ci,.slice av m.vars.length cv,.slice ap m.procs.length cp,.slice ab m.body.len cb] 32;have hcm:ae [] w wm:=by rw [← G7];exact(ae.refl _ _).alloc _
 have hsm : wm.heap.size=w.heap.size + 1:=by rw [← G7];simp
 rw [G7] at hmb;obtain⟨w0,hw0⟩ : ∃ x,wm.alloc (.cells #[.nilIface] 34)=x:=⟨_,rfl⟩
 have Lc:=ag.new wm #[.nilIface] 34;have hc0:ae [] wm w0:=by rw [← hw0];exact(ae.refl _ _).alloc _
 have hs0 : w0.heap.size=w.heap.size + 2:=by rw [← hw0];simp [hsm]
 rw [hw0] at Lc;have hcw:=hcm.then hc0
 have ng:=zh (hmb.kept hc0 (by simp));have lu:=zh Lc;have aB:=zh hcw;have xA:=zh (hi2.kept hcw (by simp));have zt:=zh (hv2.kept hcw (by simp));have kJ:=zh (hp2.kept hcw (by simp));have tL:=zh (hp3.kept hcw (by simp));have az:=zh (show fQ w0 F m.body (.slice ab m.body.len cb) from fQ.kept hcw (by simp) ⟨ab,cb,Bg,rfl,hb1,hb2,hb3⟩);have Ld:=zh (hs.kept hcw (by simp));have HM:=zh hm;have Q8:=zh hF;have HS:=zh (And.intro hsm hs0);obtain⟨tgt,fA⟩ : ∃ t,t=check m seen:=⟨_,rfl⟩
 rw [← fA];obtain⟨it,hit⟩ : ∃ x,x=gY m.name seen [] m.imports:=⟨_,rfl⟩
 have eT:=zh fA;have HIT:=zh hit;have him:=hm.imports;have hmv:=hm.vars;have hmp:=hm.procs;clear hs hm hF fA hit hmb Lc hcm hc0 hcw hi2 hv2 hp2 hp3 hb2 hb3 hsm hs0;have m0:=ng.out.cell 0 _ rfl;have m1:=ng.out.cell 1 _ rfl
 go_enter_defers Tryz.func37,Tryz.ntmps37
 go_wp2_with fail;clear G7 hw0 m0 m1
 go_loopw [5,6,7,8,24] (fun _ _ _ _ i wr=>∃ k:Nat,i = .int .i64 k∧k≤m.imports.length∧gY m.name seen (m.imports.take k) (m.imports.drop k)=it∧ae [] w0 wr) (fun _ _ _ _ i _=>m.imports.length - (intOf i).toNat)
 case atStart=>exact⟨0,rfl,Nat.zero_le _,by rw [HIT.out] <;> rfl,ae.refl _ _⟩
 case round=>
  obtain⟨k,rfl,hk,hin,hc⟩:=hrel;have yR:=zh hin;have HC:=zh hc;clear hin hc;by_cases hlt : k < m.imports.length
  ·have m0:=(ng.out.kept HC.out (by simp)).cell 0 _ rfl;have m1:=(ng.out.kept HC.out (by simp)).cell 1 _ rfl
   obtain⟨n,hn⟩ : ∃ n,m.imports[k]?=some n:=⟨m.imports[k],List.getElem?_eq_getElem hlt⟩
   obtain⟨b,o,rfl,d0⟩:=xe (xA.out.kept HC.out (by simp)) hn;have HN:=zh hn;have HIS:=zh (show gY m.name seen (m.imports.take k) (n :: m.imports.drop (k + 1))=it by rw [← drop_cons hn];exact yR.out);have fw:=zh (Db (m.imports.take k) (by rw [List.length_take];omega) n F _ wr (Rl (xA.out.kept HC.out (by simp)) hi1 (by omega)));clear hn;cases hq : (n == m.name) with
   | true=>
    have HT:=zh (show tgt = .plain 10 by
     rw [eT.out];refine Lb ?_;rw [← HIT.out,← HIS.out,gY,if_pos (.inl (by simpa using hq))])
    have e0:=(lu.out.kept HC.out (by simp)).cell 0 _ rfl;have f0:=(lu.out.kept HC.out (by simp)).frozen 0;obtain⟨wE,bW⟩ : ∃ x,wr.setCell ⟨wm.heap.size,0,none⟩ (.iface 46 (.int .i64 10))=x:=⟨_,rfl⟩
    have fK:=zh (show ae [wm.heap.size] wr wE by rw [← bW];exact ae.set1 _ _ _ _);have iq:=zh (show ag wE wm.heap.size #[.iface 46 (.int .i64 10)] 34 by rw [← bW];simpa using (lu.out.kept HC.out (by simp)).set 0 (.iface 46 (.int .i64 10)));go_wp2_with fail;have hss:=HS.out;exact G6 _ _ _ _ _ rfl iq.out (by rw [HT.out];exact⟨(aB.out.then HC.out).trans fK.out (fun x hx=>.inr (by simp at hx;omega)),rfl⟩)
   | false=>
    have zw : ¬ n=m.name:=by simpa using hq
    cases rH : decide (n∈m.imports.take k) with
    | true=>
     rw [rH] at fw;have HT:=zh (show tgt = .plain 10 by
      rw [eT.out];refine Lb ?_;rw [← HIT.out,← HIS.out,gY,if_pos (.inr (by simpa using rH))])
     clear rH zw;have e0:=(lu.out.kept HC.out (by simp)).cell 0 _ rfl;have f0:=(lu.out.kept HC.out (by simp)).frozen 0;obtain⟨wE,bW⟩ : ∃ x,wr.setCell ⟨wm.heap.size,0,none⟩ (.iface 46 (.int .i64 10))=x:=⟨_,rfl⟩
     have fK:=zh (show ae [wm.heap.size] wr wE by rw [← bW];exact ae.set1 _ _ _ _);have iq:=zh (show ag wE wm.heap.size #[.iface 46 (.int .i64 10)] 34 by rw [← bW];simpa using (lu.out.kept HC.out (by simp)).set 0 (.iface 46 (.int .i64 10)));go_wp2_with fail;refine fw.out.mono ?_;rintro _ _ ⟨rfl,hw⟩;have hw:=hw.symm;subst hw;go_wp2_with fail;have hss:=HS.out;exact G6 _ _ _ _ _ rfl iq.out (by rw [HT.out];exact⟨(aB.out.then HC.out).trans fK.out (fun x hx=>.inr (by simp at hx;omega)),rfl⟩)
    | false=>
     rw [rH] at fw;have hni : ¬ (n=m.name∨n∈m.imports.take k):=by simp only [not_or];exact⟨zw,by simpa using rH⟩
     obtain⟨u,_,hlk,_,_⟩:=J7 (Ld.out.kept HC.out (by simp)) n;have De:=hlk wr (ae.refl _ _);clear hlk rH zw;cases hsn : (seen n).isSome with
     | false=>
      rw [hsn] at De;have HT:=zh (show tgt = .plain 8 by
       rw [eT.out];refine Lb ?_;rw [← HIT.out,← HIS.out,gY,if_neg hni,if_pos (by simpa using hsn)])
      clear hni hsn;have e0:=(lu.out.kept HC.out (by simp)).cell 0 _ rfl;have f0:=(lu.out.kept HC.out (by simp)).frozen 0;obtain⟨wE,bW⟩ : ∃ x,wr.setCell ⟨wm.heap.size,0,none⟩ (.iface 46 (.int .i64 8))=x:=⟨_,rfl⟩
      have fK:=zh (show ae [wm.heap.size] wr wE by rw [← bW];exact ae.set1 _ _ _ _);have iq:=zh (show ag wE wm.heap.size #[.iface 46 (.int .i64 8)] 34 by rw [← bW];simpa using (lu.out.kept HC.out (by simp)).set 0 (.iface 46 (.int .i64 8)));go_wp2_with fail;refine fw.out.mono ?_;rintro _ _ ⟨rfl,hw⟩;have hw:=hw.symm;subst hw;go_wp2_with fail;have hss:=HS.out;exact G6 _ _ _ _ _ rfl iq.out (by rw [HT.out];exact⟨(aB.out.then HC.out).trans fK.out (fun x hx=>.inr (by simp at hx;omega)),rfl⟩)
     | true=>
      rw [hsn] at De;have eZ:=zh (show gY m.name seen (m.imports.take (k + 1)) (m.imports.drop (k + 1))=it by
       rw [Rk HN.out,← HIS.out]
       conv=>rhs;rw [gY,if_neg hni,if_neg (by simp;intro h;rw [h] at hsn;cases hsn)])
      clear hni hsn;go_wp2_with fail;refine fw.out.mono ?_;rintro _ _ ⟨rfl,hw⟩;have hw:=hw.symm;subst hw;go_wp2_with fail;exact⟨⟨k + 1,by go_num,by omega,eZ.out,HC.out⟩,by simp [intOf];omega⟩
  ·have zx:=zh (show tgt = .of (D5 m seen) by
    rw [eT.out];refine abz ?_;rw [← HIT.out,← yR.out,List.drop_eq_nil_of_le (by omega)];rfl)
   obtain⟨wL,zy⟩ : ∃ x,x=wr:=⟨_,rfl⟩
   subst zy;obtain⟨wN,Lf⟩ : ∃ x,wL.alloc (.map #[] 0)=x:=⟨_,rfl⟩
   have zz:=zh (show ae [] w0 wN from HC.out.then (by rw [← Lf];exact(ae.refl [] wL).alloc _));have HAD:=zh (show jY wN wL.heap.size [] by rw [← Lf];exact jY.made wL);have hcs:=HC.out.size;have m2:=(ng.out.kept zz.out (by simp)).cell 2 _ rfl;clear yR HIT eT HC;go_wp2_with fail;clear Lf m2 hk hlt
   go_loopw [11,56] (fun _ i wr=>∃ (k:Nat) (had:List (List UInt8)),i = .int .i64 k∧k≤m.vars.length∧ae [] w0 wr∧jY wr wL.heap.size had∧fq had ((m.vars.drop k).map (fun g=>(g.name,g.pos)) ++ m.procs.map fun x=>(x.name,x.pos))=fq [] (m.vars.map (fun g=>(g.name,g.pos)) ++ m.procs.map fun x=>(x.name,x.pos))) (fun _ i _=>m.vars.length - (intOf i).toNat)
   case atStart=>exact⟨0,[],rfl,Nat.zero_le _,zz.out,HAD.out,rfl⟩
   case round=>
    obtain⟨k,had,rfl,hk,hc,xB,hon⟩:=hrel;have HC:=zh hc;have HH:=zh xB;have iR:=zh hon;clear hc xB hon;by_cases hlt : k < m.vars.length
    ·obtain⟨g,hg⟩ : ∃ g,m.vars[k]?=some g:=⟨m.vars[k],List.getElem?_eq_getElem hlt⟩
     obtain⟨b,o,rfl,d0,d1,d2,d3⟩:=AL (zt.out.kept HC.out (by simp)) hg;have xC:=zh (show fq had ((g.name,g.pos) :: ((m.vars.drop (k + 1)).map (fun g=>(g.name,g.pos)) ++ m.procs.map fun x=>(x.name,x.pos)))=fq [] (m.vars.map (fun g=>(g.name,g.pos)) ++ m.procs.map fun x=>(x.name,x.pos)) by
      rw [← iR.out,drop_cons hg];rfl)
     have hz:=ag.new wr #[str [],.int .i64 0,.int .i64 0,.bool false] 68;obtain⟨wA,ay⟩ : ∃ x,wr.alloc (.cells #[str [],.int .i64 0,.int .i64 0,.bool false] 68)=x:=⟨_,rfl⟩
     rw [ay] at hz;have hcA:ae [] wr wA:=by rw [← ay];exact(ae.refl _ _).alloc _
     obtain⟨wF,hwF,aZ,aG⟩:=PU (str g.name) (.int .i64 g.pos) (.int .i64 g.len) (.bool g.seen) hz;have hcw:ae [] wr wF:=hcA.trans aZ (fun x hx=>.inr (by simp at hx;omega));have g0:=hcA.aF d0 (by simp);have g1:=hcA.aF d1 (by simp);have g2:=hcA.aF d2 (by simp);have g3:=hcA.aF d3 (by simp);have z0:=hz.cell 0 _ rfl;have z1:=hz.cell 1 _ rfl;have z2:=hz.cell 2 _ rfl;have z3:=hz.cell 3 _ rfl;have y0:=hz.frozen 0;have y1:=hz.frozen 1;have y2:=hz.frozen 2;have y3:=hz.frozen 3;have e0:=aG.cell 0 _ rfl;have e1:=aG.cell 1 _ rfl;have dM:=zh (HC.out.then hcw);have hone:=J6 had g.name g.pos wL.heap.size wF (HH.out.kept hcw (by simp));clear hg hz hcA aZ aG hcw;by_cases hgi : g.name∈had
     ·simp only [if_pos hgi] at hone
      have si:=zh hone;have HT:=zh (show tgt = .at_ 9 g.pos by
       rw [zx.out,D5,← xC.out,fq,if_pos hgi];rfl)
      clear hone hgi;go_wp2_with fail;refine si.out.mono ?_;rintro _ w9 ⟨bR,b9,rfl,bO,aW⟩;have D6:=dM.out.size;have hss:=HS.out;have dh:=zh (show ae [] w w9 from(aB.out.then dM.out).trans bR (fun x hx=>.inr (by simp at hx <;> omega)));have vw:=zh (show ag w9 wm.heap.size #[.nilIface] 34 from(lu.out.kept dM.out (by simp)).kept bR (by simp <;> omega));have dH:=zh aW;have dV:=zh bO;clear bR aW bO hss;go_wp2_with fail;refine DZ _ _ _ _ _ _ rfl vw.out (fun w' hc=>?_);have hss:=HS.out;have bO:=dV.out;rw [HT.out];exact⟨dh.out.trans hc (fun x hx=>.inr (by simp at hx <;> omega)),b9,rfl,by omega,dH.out.kept hc (by simp <;> omega)⟩
     ·simp only [if_neg hgi] at hone
      have si:=zh hone;have eZ:=zh (show fq (g.name :: had) ((m.vars.drop (k + 1)).map (fun g=>(g.name,g.pos)) ++ m.procs.map fun x=>(x.name,x.pos))=fq [] (m.vars.map (fun g=>(g.name,g.pos)) ++ m.procs.map fun x=>(x.name,x.pos)) by
       rw [← xC.out]
       conv=>rhs;rw [fq,if_neg hgi])
      clear hone hgi;go_wp2_with fail;refine si.out.mono ?_;rintro _ w4 ⟨rfl,hc4,xD⟩;have cu:=zh (show ae [] w0 w4 from dM.out.trans hc4 (fun x hx=>.inr (by simp at hx;omega)));have D7:=zh xD;clear hc4 xD;go_wp2_with fail;exact⟨⟨k + 1,g.name :: had,by go_num,by omega,cu.out,D7.out,eZ.out⟩,by simp [intOf];omega⟩
    ·have Lg:=zh (show fq had (m.procs.map fun x=>(x.name,x.pos))=fq [] (m.vars.map (fun g=>(g.name,g.pos)) ++ m.procs.map fun x=>(x.name,x.pos)) by
      rw [← iR.out,List.drop_eq_nil_of_le (by omega)];rfl)
     obtain⟨wP,hwP⟩ : ∃ x,x=wr:=⟨_,rfl⟩
     subst hwP;have m3:=(ng.out.kept HC.out (by simp)).cell 3 _ rfl;have CV:=zh HC.out;have HHP:=zh HH.out;clear iR HC HH;go_wp2_with fail;clear m3 hk hlt
     go_loopw [13,70] (fun _ i wr=>∃ (k:Nat) (had:List (List UInt8)),i = .int .i64 k∧k≤m.procs.length∧ae [] w0 wr∧jY wr wL.heap.size had∧fq had ((m.procs.drop k).map fun x=>(x.name,x.pos))=fq [] (m.vars.map (fun g=>(g.name,g.pos)) ++ m.procs.map fun x=>(x.name,x.pos))) (fun _ i _=>m.procs.length - (intOf i).toNat)
     case atStart=>exact⟨0,_,rfl,Nat.zero_le _,CV.out,HHP.out,Lg.out⟩
     case round=>
      obtain⟨k,had,rfl,hk,hc,xB,hon⟩:=hrel;have HC:=zh hc;have HH:=zh xB;have iR:=zh hon;clear hc xB hon;by_cases hlt : k < m.procs.length
      ·obtain⟨x,hx⟩ : ∃ x,m.procs[k]?=some x:=⟨m.procs[k],List.getElem?_eq_getElem hlt⟩
       obtain⟨cs1,d,cs',hpe,hl1,_,_,_,rfl,⟨p1,q1,rfl,hq1,hr1⟩,⟨p2,q2,rfl,hq2,hr2⟩,⟨p3,q3,Rn,rfl,hq3,hr3,hs3⟩⟩:=La tL.out hx;have hrw:=kJ.out.kept HC.out (by simp);rw [hpe] at hrw;obtain⟨b,o,rfl,d0,d1,d2,d3,d4,d5⟩:=yO (cs':=cs') hrw hl1;clear hrw hpe;clear hl1 hr1 hr2 hr3 hs3;have hz:=ag.new wr #[str [],.int .i64 0,.bool false,ah,ah,ah] 72;obtain⟨wA,ay⟩ : ∃ x,wr.alloc (.cells #[str [],.int .i64 0,.bool false,ah,ah,ah] 72)=x:=⟨_,rfl⟩
       rw [ay] at hz;have hcA:ae [] wr wA:=by rw [← ay];exact(ae.refl _ _).alloc _
       obtain⟨wF,hwF,aZ,aG⟩:=F7 (str x.name) (.int .i64 x.pos) (.bool x.seen) (.slice p1 x.params.length q1) (.slice p2 x.vars.length q2) (.slice p3 x.body.len q3) hz;have hcw:ae [] wr wF:=hcA.trans aZ (fun x hx=>.inr (by simp at hx;omega));have g0:=hcA.aF d0 (by simp);have g1:=hcA.aF d1 (by simp);have g2:=hcA.aF d2 (by simp);have g3:=hcA.aF d3 (by simp);have g4:=hcA.aF d4 (by simp);have g5:=hcA.aF d5 (by simp);have z0:=hz.cell 0 _ rfl;have z1:=hz.cell 1 _ rfl;have z2:=hz.cell 2 _ rfl;have z3:=hz.cell 3 _ rfl;have z4:=hz.cell 4 _ rfl;have z5:=hz.cell 5 _ rfl;have y0:=hz.frozen 0;have y1:=hz.frozen 1;have y2:=hz.frozen 2;have y3:=hz.frozen 3;have y4:=hz.frozen 4;have y5:=hz.frozen 5;have e0:=aG.cell 0 _ rfl;have e1:=aG.cell 1 _ rfl;have dM:=zh (HC.out.then hcw);have pV:=zh aG;have xC:=zh (show fq had ((x.name,x.pos) :: (m.procs.drop (k + 1)).map fun x=>(x.name,x.pos))=fq [] (m.vars.map (fun g=>(g.name,g.pos)) ++ m.procs.map fun x=>(x.name,x.pos)) by
        rw [← iR.out,drop_cons hx];rfl)
       have hone:=J6 had x.name x.pos wL.heap.size wF (HH.out.kept hcw (by simp));clear hx hz hcA aZ aG hcw;by_cases hgi : x.name∈had
       ·simp only [if_pos hgi] at hone
        have si:=zh hone;have HT:=zh (show tgt = .at_ 9 x.pos by
         rw [zx.out,D5,← xC.out,fq,if_pos hgi];rfl)
        clear hone hgi;go_wp2_with fail;refine si.out.mono ?_;rintro _ w9 ⟨bR,b9,rfl,bO,aW⟩;have D6:=dM.out.size;have hss:=HS.out;have dh:=zh (show ae [] w w9 from(aB.out.then dM.out).trans bR (fun x hx=>.inr (by simp at hx <;> omega)));have vw:=zh (show ag w9 wm.heap.size #[.nilIface] 34 from(lu.out.kept dM.out (by simp)).kept bR (by simp <;> omega));have dH:=zh aW;have dV:=zh bO;clear bR aW bO hss;go_wp2_with fail;refine DZ _ _ _ _ _ _ rfl vw.out (fun w' hc=>?_);have hss:=HS.out;have bO:=dV.out;rw [HT.out];exact⟨dh.out.trans hc (fun x hx=>.inr (by simp at hx <;> omega)),b9,rfl,by omega,dH.out.kept hc (by simp <;> omega)⟩
       ·simp only [if_neg hgi] at hone
        have si:=zh hone;have eZ:=zh (show fq (x.name :: had) ((m.procs.drop (k + 1)).map fun x=>(x.name,x.pos))=fq [] (m.vars.map (fun g=>(g.name,g.pos)) ++ m.procs.map fun x=>(x.name,x.pos)) by
         rw [← xC.out]
         conv=>rhs;rw [fq,if_neg hgi])
        clear hone hgi;go_wp2_with fail;refine si.out.mono ?_;rintro _ w4 ⟨rfl,hc4,xD⟩;have cu:=zh (show ae [] w0 w4 from dM.out.trans hc4 (fun x hx=>.inr (by simp at hx;omega)));have D7:=zh xD;clear hc4 xD;go_wp2_with fail;exact⟨⟨k + 1,x.name :: had,by go_num,by omega,cu.out,D7.out,eZ.out⟩,by simp [intOf];omega⟩
      ·have zx:=zh (show tgt = .of ((eX m seen m.procs).or (Check.aN ⟨m.imports,seen,[],m.vars,m.procs⟩ m.body)) by
        have h0 : fq [] (m.vars.map (fun g=>(g.name,g.pos)) ++ m.procs.map fun x=>(x.name,x.pos))=none:=by
         rw [← iR.out,List.drop_eq_nil_of_le (by omega)];rfl
        rw [zx.out,D5,h0];rfl)
       obtain⟨wQ,hwQ⟩ : ∃ x,x=wr:=⟨_,rfl⟩
       subst hwQ;have m3:=(ng.out.kept HC.out (by simp)).cell 3 _ rfl;have CV:=zh HC.out;clear iR HC HH;go_wp2_with fail;clear m3 hk hlt
       go_loopw [15,16,17,19,84] (fun _ _ _ _ i wr=>∃ k:Nat,i = .int .i64 k∧k≤m.procs.length∧ae [] w0 wr∧Check.eX m seen (m.procs.drop k)=Check.eX m seen m.procs) (fun _ _ _ _ i _=>m.procs.length - (intOf i).toNat)
       case atStart=>exact⟨0,rfl,Nat.zero_le _,CV.out,rfl⟩
       case round=>
        obtain⟨k,rfl,hk,hc,hon⟩:=hrel;have HC:=zh hc;have iR:=zh hon;clear hc hon;by_cases hlt : k < m.procs.length
        ·obtain⟨x,hx⟩ : ∃ x,m.procs[k]?=some x:=⟨m.procs[k],List.getElem?_eq_getElem hlt⟩
         obtain⟨cs1,d,cs',hpe,hl1,_,_,_,rfl,⟨p1,q1,rfl,hq1,hr1⟩,⟨p2,q2,rfl,hq2,hr2⟩,⟨p3,q3,Rn,rfl,hq3,hr3,hs3⟩⟩:=La tL.out hx;have hrw:=kJ.out.kept HC.out (by simp);rw [hpe] at hrw;obtain⟨b,o,rfl,d0,d1,d2,d3,d4,d5⟩:=yO (cs':=cs') hrw hl1;clear hrw hpe;have HR1:=zh hr1;have HR2:=zh hr2;have HR3:=zh hr3;have lT:=zh hs3;clear hl1 hr1 hr2 hr3 hs3;have hz:=ag.new wr #[str [],.int .i64 0,.bool false,ah,ah,ah] 72;obtain⟨wA,ay⟩ : ∃ x,wr.alloc (.cells #[str [],.int .i64 0,.bool false,ah,ah,ah] 72)=x:=⟨_,rfl⟩
         rw [ay] at hz;have hcA:ae [] wr wA:=by rw [← ay];exact(ae.refl _ _).alloc _
         obtain⟨wF,hwF,aZ,aG⟩:=F7 (str x.name) (.int .i64 x.pos) (.bool x.seen) (.slice p1 x.params.length q1) (.slice p2 x.vars.length q2) (.slice p3 x.body.len q3) hz;have hcw:ae [] wr wF:=hcA.trans aZ (fun x hx=>.inr (by simp at hx;omega));have g0:=hcA.aF d0 (by simp);have g1:=hcA.aF d1 (by simp);have g2:=hcA.aF d2 (by simp);have g3:=hcA.aF d3 (by simp);have g4:=hcA.aF d4 (by simp);have g5:=hcA.aF d5 (by simp);have z0:=hz.cell 0 _ rfl;have z1:=hz.cell 1 _ rfl;have z2:=hz.cell 2 _ rfl;have z3:=hz.cell 3 _ rfl;have z4:=hz.cell 4 _ rfl;have z5:=hz.cell 5 _ rfl;have y0:=hz.frozen 0;have y1:=hz.frozen 1;have y2:=hz.frozen 2;have y3:=hz.frozen 3;have y4:=hz.frozen 4;have y5:=hz.frozen 5;have e0:=aG.cell 0 _ rfl;have e1:=aG.cell 1 _ rfl;have dM:=zh (HC.out.then hcw);have pV:=zh aG;have Lh:=zh (show (Check.lM m seen x).or (Check.eX m seen (m.procs.drop (k + 1)))=Check.eX m seen m.procs by
          rw [← iR.out,drop_cons hx];rfl)
         have hxm : x∈m.procs:=List.mem_of_getElem? hx;have G8:=zh (HM.out.bodies x hxm);obtain⟨hxp,hxv⟩:=HM.out.params x hxm;clear hx hxm hz hcA aZ aG hcw;go_wp2_with fail;clear ay hwF d0 d1 d2 d3 d4 d5 g0 g1 g2 g3 g4 g5 z0 z1 z2 z3 z4 z5 y0 y1 y2 y3 y4 y5 e0 e1;obtain⟨wR,hwR⟩ : ∃ x,x=wr:=⟨_,rfl⟩
         subst hwR;obtain⟨wD,aH⟩ : ∃ x,x=wF.drew:=⟨_,rfl⟩
         have dW:=zh (show ae [] w0 wD by rw [aH];exact dM.out.drew);have oK:=zh (show ag wD wR.heap.size #[str x.name,.int .i64 x.pos,.bool x.seen,.slice p1 x.params.length q1,.slice p2 x.vars.length q2,.slice p3 x.body.len q3] 72 by rw [aH];exact pV.out);have jO:=zh (ng.out.kept dW.out (by simp));have m0:=jO.out.cell 0 _ rfl;have m1:=jO.out.cell 1 _ rfl;have m2:=jO.out.cell 2 _ rfl;have m3:=jO.out.cell 3 _ rfl;have m4:=jO.out.cell 4 _ rfl;have b3:=oK.out.cell 3 _ rfl;have b4:=oK.out.cell 4 _ rfl;have hk:=ag.new wD #[.slice p1 x.params.length q1,.slice p2 x.vars.length q2] 27;obtain⟨wK,xE⟩ : ∃ y,wD.alloc (.cells #[.slice p1 x.params.length q1,.slice p2 x.vars.length q2] 27)=y:=⟨_,rfl⟩
         rw [xE] at hk;have hcK:ae [] wD wK:=by rw [← xE];exact(ae.refl _ _).alloc _
         have vz:=zh (dW.out.then hcK);have HDK:=zh hcK;have Ro : wK.heap.size=wD.heap.size + 1:=by rw [← xE];simp
         have hcc:=ZJ x.params x.vars (by omega) (by omega) wD.heap.size q1 q2 p1 p2 F wK (hk.cell 0 _ rfl) (hk.cell 1 _ rfl) ⟨p1,q1,rfl,hq1,HR1.out.kept vz.out (by simp)⟩ ⟨p2,q2,rfl,hq2,HR2.out.kept vz.out (by simp)⟩;obtain⟨L,hL⟩ : ∃ L,L=x.params ++ x.vars:=⟨_,rfl⟩
         have hLl:L.length≤20:=by rw [hL,List.length_append];omega
         rw [← hL] at hcc;have gK:=zh hcc;have jI:=zh hL;clear hcc hL;have CW:=zh Ro;have Li:=zh (show wR.heap.size < wD.heap.size from oK.out.lt);have Rp:=zh (show w.heap.size < wD.heap.size from jO.out.lt);clear hk hcK Ro;refine kX [] rfl (by kernel_rfl) ?_;rw [← aH];clear aH;have hS:ae [] wD wD:=ae.refl _ _
         repeat ((with_reducible refine gX ?_);(first|refine aL ?_|refine sK ?_|refine sM fun _ _=>?_|refine sL fun _ _=>?_|refine sE fun _ _=>?_);go_wp2_with fail)
         refine And.intro HDK.out ?_;have hS1:=HDK.out
         repeat ((with_reducible refine gX ?_);(first|refine aL ?_|refine sK ?_|refine sM fun _ _=>?_|refine sL fun _ _=>?_|refine sE fun _ _=>?_);go_wp2_with fail)
         refine gK.out.mono ?_;rintro _ wC ⟨lv,rfl,hnl,hcC⟩;obtain⟨la,lc,rfl,hlc,hlr⟩:=hnl;have hS2:ae [] wD wC:=HDK.out.then hcC
         have abE:=zh (vz.out.then hcC);have Rq:=hcC.size;have aik:=zh hlr;obtain⟨wB,fB⟩ : ∃ y,wC.alloc (.cells #[str m.name,.slice ai m.imports.length ci,.slice av m.vars.length cv,(.slice (some ⟨b,o,none⟩) m.procs.length cp),.slice ab m.body.len cb,.map ov,.slice la L.length lc] 157)=y:=⟨_,rfl⟩
         have hck:=ag.new wC #[str m.name,.slice ai m.imports.length ci,.slice av m.vars.length cv,(.slice (some ⟨b,o,none⟩) m.procs.length cp),.slice ab m.body.len cb,.map ov,.slice la L.length lc] 157;rw [fB] at hck;have hcB:ae [] wC wB:=by rw [← fB];exact(ae.refl _ _).alloc _
         have hsB : wB.heap.size=wC.heap.size + 1:=by rw [← fB];simp
         have abF:=zh (show ae [] wD wB from hS2.then hcB);obtain⟨wM,Lj⟩ : ∃ y,wB.alloc (.map #[] 0)=y:=⟨_,rfl⟩
         have D8:ae [] wB wM:=by rw [← Lj];exact(ae.refl _ _).alloc _
         have HAD:=zh (show jY wM wB.heap.size [] by rw [← Lj];exact jY.made wB);have HCM:=zh ((abE.out.then hcB).then D8);have Rs:=zh (hck.kept D8 (by simp));have Rt:=zh ((hlr.kept hcB (by simp)).kept D8 (by simp));have Ll:=zh (((oK.out.kept hS2 (by simp)).kept hcB (by simp)).kept D8 (by simp));have c6:=Rs.out.cell 6 _ rfl;have hsz : w0.heap.size≤wK.heap.size:=vz.out.size;have jF:=zh (And.intro Rq (And.intro hsB hsz));clear hcC hlr hck hcB hsB D8 Rq hsz;go_wp2_with fail;refine And.intro hS2 ?_
         repeat ((with_reducible refine gX ?_);(first|refine aL ?_|refine sK ?_|refine sM fun _ _=>?_|refine sL fun _ _=>?_|refine sE fun _ _=>?_);go_wp2_with fail)
         refine And.intro abF.out ?_
         repeat ((with_reducible refine gX ?_);(first|refine aL ?_|refine sK ?_|refine sM fun _ _=>?_|refine sL fun _ _=>?_|refine sE fun _ _=>?_);go_wp2_with fail)
         clear hS hS1 hS2 m0 m1 m2 m3 m4 b3 b4;go_wp2_with fail;clear xE fB Lj c6
         go_loopw [19,104] (fun _ i wr=>∃ (j:Nat) (had:List (List UInt8)),i = .int .i64 j∧j≤L.length∧ae [wB.heap.size] wM wr∧jY wr wB.heap.size had∧fq had ((L.drop j).map fun n=>(n,x.pos))=fq [] (L.map fun n=>(n,x.pos))) (fun _ i _=>L.length - (intOf i).toNat)
         case atStart=>exact⟨0,[],rfl,Nat.zero_le _,ae.refl _ _,HAD.out,rfl⟩
         case round=>
          obtain⟨j,had,rfl,hj,hc,xB,hon⟩:=hrel;have hsz:=jF.out;have cO:=zh (show ae [] w0 wr from HCM.out.trans hc (fun x hx=>.inr (by simp at hx;omega)));have HH:=zh xB;have Ru:=zh hon;have HC:=zh hc;have hbp:=Ll.out.kept hc (by have:=Li.out;have:=CW.out;simp;omega);have q1:=hbp.cell 1 _ rfl;have q5:=hbp.cell 5 _ rfl;clear hc xB hon hbp;by_cases hlj : j < L.length
          ·obtain⟨n,hn⟩ : ∃ n,L[j]?=some n:=⟨L[j],List.getElem?_eq_getElem hlj⟩
           obtain⟨b8,o8,rfl,d0⟩:=xe (Rt.out.kept HC.out (fun y hy hn=>by simp at hy;have:=hn.2;omega)) hn;have xC:=zh (show fq had ((n,x.pos) :: (L.drop (j + 1)).map fun n=>(n,x.pos))=fq [] (L.map fun n=>(n,x.pos)) by
            rw [← Ru.out,drop_cons hn];rfl)
           have hone:=J6 had n x.pos wB.heap.size wr HH.out;clear hn hsz;by_cases hgi : n∈had
           ·simp only [if_pos hgi] at hone
            have si:=zh hone;have HT:=zh (show tgt = .at_ 9 x.pos by
             have h1 : fq [] ((x.params ++ x.vars).map fun n=>(n,x.pos))=some (9,x.pos):=by
              rw [← jI.out,← xC.out,fq,if_pos hgi]
             rw [zx.out,← Lh.out,Check.lM,h1];rfl)
            clear hone hgi;go_wp2_with fail;have hsz:=jF.out;refine si.out.mono ?_;rintro _ w9 ⟨bR,b9,rfl,bO,aW⟩;have D6:=cO.out.size;have hss:=HS.out;have dh:=zh (show ae [] w w9 from(aB.out.then cO.out).trans bR (fun x hx=>.inr (by simp at hx <;> omega)));have vw:=zh (show ag w9 wm.heap.size #[.nilIface] 34 from(lu.out.kept cO.out (by simp)).kept bR (by simp <;> omega));have dH:=zh aW;have dV:=zh bO;clear bR aW bO hss;go_wp2_with fail;refine DZ _ _ _ _ _ _ rfl vw.out (fun w' hc=>?_);have hss:=HS.out;have bO:=dV.out;rw [HT.out];exact⟨dh.out.trans hc (fun x hx=>.inr (by simp at hx <;> omega)),b9,rfl,by omega,dH.out.kept hc (by simp <;> omega)⟩
           ·simp only [if_neg hgi] at hone
            have si:=zh hone;have eZ:=zh (show fq (n :: had) ((L.drop (j + 1)).map fun n=>(n,x.pos))=fq [] (L.map fun n=>(n,x.pos)) by
             rw [← xC.out]
             conv=>rhs;rw [fq,if_neg hgi])
            clear hone hgi;go_wp2_with fail;refine si.out.mono ?_;rintro _ w4 ⟨rfl,hc4,xD⟩;have cu:=zh (HC.out.then hc4);have D7:=zh xD;clear hc4 xD;go_wp2_with fail;exact⟨⟨j + 1,n :: had,by go_num,by omega,cu.out,D7.out,eZ.out⟩,by simp [intOf];omega⟩
          ·have h1 : fq [] (L.map fun n=>(n,x.pos))=none:=by
            rw [← Ru.out,List.drop_eq_nil_of_le (by omega)];rfl
           obtain⟨cv',hcv⟩ : ∃ c:Env,c=⟨m.imports,seen,L,m.vars,m.procs⟩:=⟨_,rfl⟩
           have mV:=zh (show Check.lM m seen x=Check.aN cv' x.body by rw [Check.lM,← jI.out,h1,hcv];rfl);have hev:ma wr (fun y=>F y∨(w0.heap.size≤y∧y < wB.heap.size)) cv' wC.heap.size:=by
            rw [hcv];exact⟨(.inr ⟨by omega,by omega⟩),HM.out.imports,by show L.length≤1000;omega,HM.out.vars,HM.out.procs,m.name,.slice ai m.imports.length ci,.slice av m.vars.length cv,.slice (some ⟨b,o,none⟩) m.procs.length cp,.slice ab m.body.len cb,.map ov,.slice la L.length lc,Rs.out.kept HC.out (by simp;omega),
             ⟨ai,ci,rfl,hi1,(xA.out.kept cO.out (by simp)).mono (fun y hy=>.inl hy)⟩,⟨av,cv,rfl,hv1,(zt.out.kept cO.out (by simp)).mono (fun y hy=>.inl hy)⟩,uQ (oG.mono (fun y hy=>.inl hy) ⟨some ⟨b,o,none⟩,cp,tJ,rfl,hp1,kJ.out.kept cO.out (by simp),tL.out.kept cO.out (by simp)⟩),(Ld.out.kept cO.out (by simp)).mono (fun y hy=>.inl hy),⟨la,lc,rfl,hlc,(Rt.out.kept HC.out (fun y hy hn=>by simp at hy;have:=hn.2;omega)).mono (fun y hy=>.inr ⟨by have:=hy.1;omega,by have:=hy.2;omega⟩)⟩⟩
           have vB:=zh (Qk cv' _ wC.heap.size x.body G8.out.1 G8.out.2 (.slice p3 x.body.len q3) wr hev (fQ.mono (fun y hy=>.inl hy) ⟨p3,q3,Rn,rfl,hq3,HR3.out.kept cO.out (by simp),lT.out.kept cO.out (by simp)⟩));clear h1 hev hcv;cases hbl:Check.aN cv' x.body with
           | none=>
            rw [hbl] at vB;have eZ:=zh (show Check.eX m seen (m.procs.drop (k + 1))=Check.eX m seen m.procs by
             rw [← Lh.out,mV.out,hbl];rfl)
            clear hbl hsz;go_wp2_with fail;refine vB.out.mono ?_;rintro _ w5 ⟨bH,rfl⟩;have bD:=zh (cO.out.then bH);clear bH;go_wp2_with fail;exact⟨⟨k + 1,by go_num,by omega,bD.out,eZ.out⟩,by simp [intOf];omega⟩
           | some y=>
            obtain⟨en,q⟩:=y;rw [hbl] at vB;have HT:=zh (show tgt = .at_ en q by rw [zx.out,← Lh.out,mV.out,hbl];rfl);clear hbl hsz;go_wp2_with fail;have hsz:=jF.out;refine vB.out.mono ?_;rintro _ w9 ⟨bR,b9,rfl,bO,aW⟩;have D6:=cO.out.size;have hss:=HS.out;have dh:=zh (show ae [] w w9 from(aB.out.then cO.out).trans bR (fun x hx=>.inr (by simp at hx <;> omega)));have vw:=zh (show ag w9 wm.heap.size #[.nilIface] 34 from(lu.out.kept cO.out (by simp)).kept bR (by simp <;> omega));have dH:=zh aW;have dV:=zh bO;clear bR aW bO hss;go_wp2_with fail;refine DZ _ _ _ _ _ _ rfl vw.out (fun w' hc=>?_);have hss:=HS.out;have bO:=dV.out;rw [HT.out];exact⟨dh.out.trans hc (fun x hx=>.inr (by simp at hx <;> omega)),b9,rfl,by omega,dH.out.kept hc (by simp <;> omega)⟩
        ·have Bh:=zh (show tgt = .of (Check.aN ⟨m.imports,seen,[],m.vars,m.procs⟩ m.body) by
          have h0:Check.eX m seen m.procs=none:=by rw [← iR.out,List.drop_eq_nil_of_le (by omega)];rfl
          rw [zx.out,h0];rfl)
         have jO:=zh (ng.out.kept HC.out (by simp));have m0:=jO.out.cell 0 _ rfl;have m1:=jO.out.cell 1 _ rfl;have m2:=jO.out.cell 2 _ rfl;have m3:=jO.out.cell 3 _ rfl;have m4:=jO.out.cell 4 _ rfl;obtain⟨wB,fB⟩ : ∃ y,wr.alloc (.cells #[str m.name,.slice ai m.imports.length ci,.slice av m.vars.length cv,.slice ap m.procs.length cp,.slice ab m.body.len cb,.map ov,ah] 157)=y:=⟨_,rfl⟩
         have hck:=ag.new wr #[str m.name,.slice ai m.imports.length ci,.slice av m.vars.length cv,.slice ap m.procs.length cp,.slice ab m.body.len cb,.map ov,ah] 157;rw [fB] at hck;have hcB:ae [] wr wB:=by rw [← fB];exact(ae.refl _ _).alloc _
         have jk:=zh (HC.out.then hcB);have HKB:=zh hck;have n4 : wB.cell? ⟨w.heap.size,4,none⟩=_:=hcB.aF m4 (by simp);obtain⟨cv',hcv⟩ : ∃ c:Env,c=⟨m.imports,seen,[],m.vars,m.procs⟩:=⟨_,rfl⟩
         have hev:ma wB (fun y=>F y∨y=wr.heap.size) cv' wr.heap.size:=by
          rw [hcv];exact⟨(.inr rfl),HM.out.imports,by show ([] : List (List UInt8)).length≤1000;simp,HM.out.vars,HM.out.procs,m.name,.slice ai m.imports.length ci,.slice av m.vars.length cv,.slice ap m.procs.length cp,.slice ab m.body.len cb,.map ov,ah,HKB.out,
           ⟨ai,ci,rfl,hi1,(xA.out.kept jk.out (by simp)).mono (fun y hy=>.inl hy)⟩,⟨av,cv,rfl,hv1,(zt.out.kept jk.out (by simp)).mono (fun y hy=>.inl hy)⟩,uQ (oG.mono (fun y hy=>.inl hy) ⟨ap,cp,tJ,rfl,hp1,kJ.out.kept jk.out (by simp),tL.out.kept jk.out (by simp)⟩),(Ld.out.kept jk.out (by simp)).mono (fun y hy=>.inl hy),eF.nil⟩
         have vB:=zh (Qk cv' _ wr.heap.size m.body HM.out.body.1 HM.out.body.2 (.slice ab m.body.len cb) wB hev ((az.out.kept jk.out (by simp)).mono (fun y hy=>.inl hy)));have Bh:=zh (show tgt = .of (Check.aN cv' m.body) by rw [hcv];exact Bh.out);clear hck hcB hev hcv iR;cases hbl:Check.aN cv' m.body with
         | none=>
          rw [hbl] at vB Bh;clear hbl;go_wp2_with fail;clear fB m0 m1 m2 m3 m4 n4;refine vB.out.mono ?_;rintro _ w5 ⟨bH,rfl⟩;have HC:=zh (jk.out.then bH);clear bH;have e0:=(lu.out.kept HC.out (by simp)).cell 0 _ rfl;have f0:=(lu.out.kept HC.out (by simp)).frozen 0;obtain⟨wE,bW⟩ : ∃ x,w5.setCell ⟨wm.heap.size,0,none⟩ (.nilIface)=x:=⟨_,rfl⟩
          have fK:=zh (show ae [wm.heap.size] w5 wE by rw [← bW];exact ae.set1 _ _ _ _);have iq:=zh (show ag wE wm.heap.size #[.nilIface] 34 by rw [← bW];simpa using (lu.out.kept HC.out (by simp)).set 0 (.nilIface));go_wp2_with fail;have hss:=HS.out;exact G6 _ _ _ _ _ rfl iq.out (by rw [Bh.out];exact⟨(aB.out.then HC.out).trans fK.out (fun x hx=>.inr (by simp at hx;omega)),rfl⟩)
         | some y=>
          obtain⟨en,q⟩:=y;rw [hbl] at vB Bh;clear hbl;go_wp2_with fail;clear fB m0 m1 m2 m3 m4 n4;refine vB.out.mono ?_;rintro _ w9 ⟨bR,b9,rfl,bO,aW⟩;have D6:=jk.out.size;have hss:=HS.out;have dh:=zh (show ae [] w w9 from(aB.out.then jk.out).trans bR (fun x hx=>.inr (by simp at hx <;> omega)));have vw:=zh (show ag w9 wm.heap.size #[.nilIface] 34 from(lu.out.kept jk.out (by simp)).kept bR (by simp <;> omega));have dH:=zh aW;have dV:=zh bO;clear bR aW bO hss;go_wp2_with fail;refine DZ _ _ _ _ _ _ rfl vw.out (fun w' hc=>?_);have hss:=HS.out;have bO:=dV.out;rw [Bh.out];exact⟨dh.out.trans hc (fun x hx=>.inr (by simp at hx <;> omega)),b9,rfl,by omega,dH.out.kept hc (by simp <;> omega)⟩
end Go.Proofs.YtechofppmnnomaaGreatDoor
