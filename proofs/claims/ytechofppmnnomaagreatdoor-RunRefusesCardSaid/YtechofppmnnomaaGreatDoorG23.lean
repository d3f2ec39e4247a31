/- Some texts in one. -/
import Derived.Defers
import Derived.Recover
import Derived.Test.YtechofppmnnomaaGreatDoorG18
namespace Go.Mq.Check
open Go Go.RowKit Go.Mq Go.Mq.Tree Go.Mq.Sym
def CheckOut (w:World) (o:Out) (e:Ending) (w':World):Prop:=Chg [] w w'∧match o with
 | .fine=>e = .returned .nilIface
 | .plain n=>e = .returned (.iface 46 (.int .i64 n))
 | .at_ en p=>∃ b,e = .returned (.iface 140 (ptr b))∧w.heap.size≤b∧Blk w' b #[.int .i64 en,.int .i64 p] 142
end Go.Mq.Check
namespace Go.Proofs.YtechofppmnnomaaGreatDoor
open Go Go.RowKit Go.Mq Go.Mq.Tree Go.Mq.Sym Go.Mq.Check
set_option maxRecDepth 100000
set_option maxHeartbeats 8000000
theorem ccatch_idle (be:Nat) (w:World):CallsD Tryz.prog 77 #[ptr be] .returning w fun e u' w'=>
   e = .returned (.tuple #[])∧u' = .returning∧w'=w:=by
 refine callsD_of_wpS Tryz.func77 rfl fun c₀ cs hu=>?_
 rw [show (#[ptr be] ++ Array.replicate (Tryz.f77.ntmps - (#[ptr be] : Array Value).size) undef:Array Value) = #[ptr be,undef,undef,undef,undef,undef,undef,undef,undef,undef,undef,undef,undef,undef,undef,undef,undef] from rfl]
 apply wpS_seq
 apply wpS_region
 simp [wpOpsS,go_sem,recoverD,hu,Exit.thenS]
 refine wpS_of_wp ?_;go_wp2_with fail;exact⟨rfl,.returning,by cases c₀;simp_all,.tuple #[],results_none rfl _ _ _,rfl,rfl,rfl⟩
theorem ccatch_thrown (be b:Nat) (e0:Value) (w:World) (he:Blk w be #[e0] 34) :
  CallsD Tryz.prog 77 #[ptr be] (.panicking [{ v:=.iface 149 (.agg #[.iface 140 (ptr b)]),recovered:=false }]) w fun e u' w'=>
   e = .returned (.tuple #[])∧u' = .panicking [{ v:=.iface 149 (.agg #[.iface 140 (ptr b)]),recovered:=true }]∧Chg [be] w w'∧Blk w' be #[.iface 140 (ptr b)] 34:=by
 have hta : ∀ w,(Instr.typeAssert (.iface 149 (.agg #[.iface 140 (ptr b)])) 20 149 true).run Tryz.prog w = .ok (.tuple #[.agg #[.iface 140 (ptr b)],.bool true]) w:=fun _=>rfl
 refine callsD_of_wpS Tryz.func77 rfl fun c₀ cs hu=>?_
 rw [show (#[ptr be] ++ Array.replicate (Tryz.f77.ntmps - (#[ptr be] : Array Value).size) undef:Array Value) = #[ptr be,undef,undef,undef,undef,undef,undef,undef,undef,undef,undef,undef,undef,undef,undef,undef,undef] from rfl]
 apply wpS_seq
 apply wpS_region
 simp [wpOpsS,go_sem,recoverD,hu,Exit.thenS]
 refine wpS_of_wp ?_;have he':=he.kept ((Chg.refl [] w).alloc (.cells #[.iface 140 (ptr b)] 149)) (by simp);have hx':=Blk.new w #[.iface 140 (ptr b)] 149;have hc':Chg [be] w (w.alloc (.cells #[.iface 140 (ptr b)] 149)):=(Chg.refl _ w).alloc _;obtain⟨w1,hw1⟩ : ∃ x,w.alloc (.cells #[.iface 140 (ptr b)] 149)=x:=⟨_,rfl⟩
 rw [hw1] at he' hx' hc';have g0:=he'.frozen 0;have e0':=he'.cell 0 _ rfl;have x0:=hx'.cell 0 _ rfl;have hcE:Chg [be] w1 (w1.setCell ⟨be,0,none⟩ (.iface 140 (ptr b))):=Chg.set1 _ _ _ _;have HE:=zh (show Blk (w1.setCell ⟨be,0,none⟩ (.iface 140 (ptr b))) be #[.iface 140 (ptr b)] 34 by simpa using he'.set 0 (.iface 140 (ptr b)));have HC:=zh (hc'.then hcE);clear he he' hx' hc' hcE;go_wp2_with fail;refine⟨rfl,.panicking [{ v:=.iface 149 (.agg #[.iface 140 (ptr b)]),recovered:=true }],rfl,.tuple #[],results_none rfl _ _ _,rfl,rfl,?_⟩;exact⟨HC.out,HE.out⟩
theorem cresults (tmps:Array Value) (be:Nat) (ev:Value) (w:World) (h4 : tmps[4]?.getD undef=ptr be) (he:Blk w be #[ev] 34) :
  (results Tryz.f37 tmps).run Tryz.prog w = .ok ev w:=by
 have e0:=he.cell 0 _ rfl;simp [results,Tryz.results37,h4,go_sem,e0]
theorem cleave_idle (tmps:Array Value) (be:Nat) (ev:Value) (w:World) (R:Ending→World→Prop) (h4 : tmps[4]?.getD undef=ptr be) (he:Blk w be #[ev] 34)
  (hR:R (.returned ev) w):Leaves Tryz.prog Tryz.f37 tmps R [{ target:=.fn (.func 77) #[ptr be],args:=#[] }] .returning w:=by
 refine leaves_cons (f:=77) (args:=#[ptr be]) (by simp) (by simp [go_sem]) ?_;refine(ccatch_idle be w).mono ?_;rintro e u' w'' ⟨rfl,rfl,rfl⟩;exact⟨_,cresults tmps be ev w'' h4 he,hR⟩
theorem cleave_thrown (tmps:Array Value) (be b:Nat) (ev:Value) (w:World) (R:Ending→World→Prop) (h4 : tmps[4]?.getD undef=ptr be) (he:Blk w be #[ev] 34)
  (hR : ∀ w',Chg [be] w w'→R (.returned (.iface 140 (ptr b))) w'):Leaves Tryz.prog Tryz.f37 tmps R [{ target:=.fn (.func 77) #[ptr be],args:=#[] }] (.panicking [{ v:=.iface 149 (.agg #[.iface 140 (ptr b)]),recovered:=false }]) w:=by
 refine leaves_cons (f:=77) (args:=#[ptr be]) (by simp) (by simp [go_sem]) ?_;refine(ccatch_thrown be b ev w he).mono ?_;rintro e u' w'' ⟨rfl,rfl,hc,he'⟩;exact⟨_,cresults tmps be _ w'' h4 he',hR w'' hc⟩
end Go.Proofs.YtechofppmnnomaaGreatDoor
namespace Go.Mq.Check
open Go Go.RowKit Go.Mq Go.Mq.Tree Go.Mq.Sym
theorem take_snoc {α:Type} {l:List α} {k:Nat} {x : α} (h : l[k]?=some x) : l.take (k + 1)=l.take k ++ [x]:=by
 rw [List.take_add_one,h];rfl
theorem drop_cons {α:Type} {l:List α} {k:Nat} {x : α} (h : l[k]?=some x) : l.drop k=x :: l.drop (k + 1):=by
 obtain⟨hk,he⟩:=List.getElem?_eq_some_iff.1 h;rw [← he,← List.drop_eq_getElem_cons hk]
theorem names_take {w:World} {F:Nat→Prop} {a:Option Addr} {c:Nat} {l:List (List UInt8)} (h:Row w F a (l.map str)) (hc : l.length≤c) {k:Nat} (hk : k≤l.length):NamesAt w F (l.take k) (.slice a k c):=by
 refine⟨a,c,by rw [List.length_take,Nat.min_eq_left hk],by rw [List.length_take];omega,fun h0=>?_,fun h0 p hp=>h.own (by simp at h0 ⊢;omega) p hp⟩;obtain⟨b,o,ha,hcell⟩:=h.at_ (by simp at h0 ⊢;omega);refine⟨b,o,ha,fun i v hv=>hcell i v ?_⟩;rw [List.getElem?_map] at hv ⊢;rw [List.getElem?_take] at hv;split at hv
 ·exact hv
 ·cases hv
theorem prsAt_at {w:World} {F:Nat→Prop} : ∀ {l:List Proc} {cs:List Value} {k:Nat} {x:Proc},PrsAt w F l cs→l[k]?=some x → ∃ cs1 c cs',cs=cs1 ++ (c ++ cs')∧cs1.length=k * 6∧PrAt w F x c
 | [],_,_,_,_,hk=>by simp at hk
 | y :: r,_,0,x,h,hk=>by
  obtain⟨c1,c2,rfl,h1,h2⟩:=h;simp at hk;subst hk
  exact⟨[],c1,c2,rfl,rfl,h1⟩
 | y :: r,_,k + 1,x,h,hk=>by
  obtain⟨c1,c2,rfl,⟨_,_,_,rfl,_⟩,h2⟩:=h;obtain⟨cs1,c,cs',rfl,hl,hp⟩:=prsAt_at h2 (by simpa using hk);exact⟨_ ++ cs1,c,cs',by rw [List.append_assoc],by simp [hl];omega,hp⟩
def behindL (m:Mod) (seen:List UInt8→Option (List Sy)):Look:=((onceL [] (m.vars.map (fun g=>(g.name,g.pos)) ++ m.procs.map fun x=>(x.name,x.pos))).or (procsL m seen m.procs)).or (Check.bodyL ⟨m.imports,seen,[],m.vars,m.procs⟩ m.body)
theorem check_plain {m:Mod} {seen:List UInt8→Option (List Sy)} {e:Nat} (h : importsL m.name seen [] m.imports=some e) : check m seen = .plain e:=by rw [check,h]
theorem check_rest {m:Mod} {seen:List UInt8→Option (List Sy)} (h : importsL m.name seen [] m.imports=none) : check m seen = .of (behindL m seen):=by rw [check,h];rfl
end Go.Mq.Check
namespace Go.Proofs.YtechofppmnnomaaGreatDoor
open Go Go.RowKit Go.Mq Go.Mq.Tree Go.Mq.Sym Go.Mq.Check
set_option maxRecDepth 100000
set_option maxHeartbeats 8000000
theorem ccheck_any (m:Mod) (hm:FewM m) (seen:List UInt8→Option (List Sy)) (F:Nat→Prop) (v vm:Value) (w:World) (hF : ∀ x,F x→x < w.heap.size) (hmod:ModAt w F m v) (hs:SeenAt w F seen vm) :
  Calls Tryz.prog 37 #[v,vm] w (CheckOut w (check m seen)):=by
 have hmf : ∀ (fn:Fn) (first cap:Array Value) (w:World),(Instr.makeFunc fn first cap).run Tryz.prog w = .ok (.func fn first cap) w:=fun _ _ _ _=>rfl
 have hmm:=@run_makeMap Tryz.prog;obtain⟨ov,rfl⟩ : ∃ ov,vm = .map ov:=by
  rcases hs with⟨h,_⟩|⟨b,_,h,_⟩
  ·exact⟨_,h⟩
  ·exact⟨_,h⟩
 obtain⟨vi,vv,vp,vb,rfl,⟨ai,ci,rfl,hi1,hi2⟩,⟨av,cv,rfl,hv1,hv2⟩,⟨ap,cp,pcs,rfl,hp1,hp2,hp3⟩,⟨ab,cb,bcs,rfl,hb1,hb2,hb3⟩⟩:=hmod;obtain⟨wm,hwm⟩ : ∃ x,w.alloc (.cells #[str m.name,.slice ai m.imports.length ci,.slice av m.vars.length cv,.slice ap m.procs.length cp,.slice ab m.body.len cb] 32)=x:=⟨_,rfl⟩
 have hmb:=Blk.new w #[str m.name,.slice ai m.imports.length ci,.slice av m.vars.length cv,.slice ap m.procs.length cp,.slice ab m.body.len cb] 32;have hcm:Chg [] w wm:=by rw [← hwm];exact(Chg.refl _ _).alloc _
 have hsm : wm.heap.size=w.heap.size + 1:=by rw [← hwm];simp
 rw [hwm] at hmb;obtain⟨w0,hw0⟩ : ∃ x,wm.alloc (.cells #[.nilIface] 34)=x:=⟨_,rfl⟩
 have heb:=Blk.new wm #[.nilIface] 34;have hc0:Chg [] wm w0:=by rw [← hw0];exact(Chg.refl _ _).alloc _
 have hs0 : w0.heap.size=w.heap.size + 2:=by rw [← hw0];simp [hsm]
 rw [hw0] at heb;have hcw:=hcm.then hc0
 have HMB:=zh (hmb.kept hc0 (by simp));have HEB:=zh heb;have HCW:=zh hcw;have HIR:=zh (hi2.kept hcw (by simp));have HVR:=zh (hv2.kept hcw (by simp));have HPR:=zh (hp2.kept hcw (by simp));have HPS:=zh (hp3.kept hcw (by simp));have HSB:=zh (show SlAt w0 F m.body (.slice ab m.body.len cb) from SlAt.kept hcw (by simp) ⟨ab,cb,bcs,rfl,hb1,hb2,hb3⟩);have HSN:=zh (hs.kept hcw (by simp));have HM:=zh hm;have HFB:=zh hF;have HS:=zh (And.intro hsm hs0);obtain⟨tgt,htgt⟩ : ∃ t,t=check m seen:=⟨_,rfl⟩
 rw [← htgt];obtain⟨it,hit⟩ : ∃ x,x=importsL m.name seen [] m.imports:=⟨_,rfl⟩
 have HTG:=zh htgt;have HIT:=zh hit;have him:=hm.imports;have hmv:=hm.vars;have hmp:=hm.procs;clear hs hm hF htgt hit hmb heb hcm hc0 hcw hi2 hv2 hp2 hp3 hb2 hb3 hsm hs0;have m0:=HMB.out.cell 0 _ rfl;have m1:=HMB.out.cell 1 _ rfl
 go_enter_defers Tryz.func37,Tryz.ntmps37
 go_wp2_with fail;clear hwm hw0 m0 m1
 go_loopw [5,6,7,8,24] (fun _ _ _ _ i wr=>∃ k:Nat,i = .int .i64 k∧k≤m.imports.length∧importsL m.name seen (m.imports.take k) (m.imports.drop k)=it∧Chg [] w0 wr) (fun _ _ _ _ i _=>m.imports.length - (intOf i).toNat)
 case atStart=>exact⟨0,rfl,Nat.zero_le _,by rw [HIT.out] <;> rfl,Chg.refl _ _⟩
 case round=>
  obtain⟨k,rfl,hk,hin,hc⟩:=hrel;have HIN:=zh hin;have HC:=zh hc;clear hin hc;by_cases hlt : k < m.imports.length
  ·have m0:=(HMB.out.kept HC.out (by simp)).cell 0 _ rfl;have m1:=(HMB.out.kept HC.out (by simp)).cell 1 _ rfl
   obtain⟨n,hn⟩ : ∃ n,m.imports[k]?=some n:=⟨m.imports[k],List.getElem?_eq_getElem hlt⟩
   obtain⟨b,o,rfl,d0⟩:=names_cell (HIR.out.kept HC.out (by simp)) hn;have HN:=zh hn;have HIS:=zh (show importsL m.name seen (m.imports.take k) (n :: m.imports.drop (k + 1))=it by rw [← drop_cons hn];exact HIN.out);have HCT:=zh (contains_in (m.imports.take k) (by rw [List.length_take];omega) n F _ wr (names_take (HIR.out.kept HC.out (by simp)) hi1 (by omega)));clear hn;cases hq : (n == m.name) with
   | true=>
    have HT:=zh (show tgt = .plain 10 by
     rw [HTG.out];refine check_plain ?_;rw [← HIT.out,← HIS.out,importsL,if_pos (.inl (by simpa using hq))])
    have e0:=(HEB.out.kept HC.out (by simp)).cell 0 _ rfl;have f0:=(HEB.out.kept HC.out (by simp)).frozen 0;obtain⟨wE,hwE⟩ : ∃ x,wr.setCell ⟨wm.heap.size,0,none⟩ (.iface 46 (.int .i64 10))=x:=⟨_,rfl⟩
    have HCE:=zh (show Chg [wm.heap.size] wr wE by rw [← hwE];exact Chg.set1 _ _ _ _);have HBE:=zh (show Blk wE wm.heap.size #[.iface 46 (.int .i64 10)] 34 by rw [← hwE];simpa using (HEB.out.kept HC.out (by simp)).set 0 (.iface 46 (.int .i64 10)));go_wp2_with fail;have hss:=HS.out;exact cleave_idle _ _ _ _ _ rfl HBE.out (by rw [HT.out];exact⟨(HCW.out.then HC.out).trans HCE.out (fun x hx=>.inr (by simp at hx;omega)),rfl⟩)
   | false=>
    have hqn : ¬ n=m.name:=by simpa using hq
    cases hmi : decide (n∈m.imports.take k) with
    | true=>
     rw [hmi] at HCT;have HT:=zh (show tgt = .plain 10 by
      rw [HTG.out];refine check_plain ?_;rw [← HIT.out,← HIS.out,importsL,if_pos (.inr (by simpa using hmi))])
     clear hmi hqn;have e0:=(HEB.out.kept HC.out (by simp)).cell 0 _ rfl;have f0:=(HEB.out.kept HC.out (by simp)).frozen 0;obtain⟨wE,hwE⟩ : ∃ x,wr.setCell ⟨wm.heap.size,0,none⟩ (.iface 46 (.int .i64 10))=x:=⟨_,rfl⟩
     have HCE:=zh (show Chg [wm.heap.size] wr wE by rw [← hwE];exact Chg.set1 _ _ _ _);have HBE:=zh (show Blk wE wm.heap.size #[.iface 46 (.int .i64 10)] 34 by rw [← hwE];simpa using (HEB.out.kept HC.out (by simp)).set 0 (.iface 46 (.int .i64 10)));go_wp2_with fail;refine HCT.out.mono ?_;rintro _ _ ⟨rfl,hw⟩;have hw:=hw.symm;subst hw;go_wp2_with fail;have hss:=HS.out;exact cleave_idle _ _ _ _ _ rfl HBE.out (by rw [HT.out];exact⟨(HCW.out.then HC.out).trans HCE.out (fun x hx=>.inr (by simp at hx;omega)),rfl⟩)
    | false=>
     rw [hmi] at HCT;have hni : ¬ (n=m.name∨n∈m.imports.take k):=by simp only [not_or];exact⟨hqn,by simpa using hmi⟩
     obtain⟨u,_,hlk,_,_⟩:=look_seen (HSN.out.kept HC.out (by simp)) n;have hlu:=hlk wr (Chg.refl _ _);clear hlk hmi hqn;cases hsn : (seen n).isSome with
     | false=>
      rw [hsn] at hlu;have HT:=zh (show tgt = .plain 8 by
       rw [HTG.out];refine check_plain ?_;rw [← HIT.out,← HIS.out,importsL,if_neg hni,if_pos (by simpa using hsn)])
      clear hni hsn;have e0:=(HEB.out.kept HC.out (by simp)).cell 0 _ rfl;have f0:=(HEB.out.kept HC.out (by simp)).frozen 0;obtain⟨wE,hwE⟩ : ∃ x,wr.setCell ⟨wm.heap.size,0,none⟩ (.iface 46 (.int .i64 8))=x:=⟨_,rfl⟩
      have HCE:=zh (show Chg [wm.heap.size] wr wE by rw [← hwE];exact Chg.set1 _ _ _ _);have HBE:=zh (show Blk wE wm.heap.size #[.iface 46 (.int .i64 8)] 34 by rw [← hwE];simpa using (HEB.out.kept HC.out (by simp)).set 0 (.iface 46 (.int .i64 8)));go_wp2_with fail;refine HCT.out.mono ?_;rintro _ _ ⟨rfl,hw⟩;have hw:=hw.symm;subst hw;go_wp2_with fail;have hss:=HS.out;exact cleave_idle _ _ _ _ _ rfl HBE.out (by rw [HT.out];exact⟨(HCW.out.then HC.out).trans HCE.out (fun x hx=>.inr (by simp at hx;omega)),rfl⟩)
     | true=>
      rw [hsn] at hlu;have HNX:=zh (show importsL m.name seen (m.imports.take (k + 1)) (m.imports.drop (k + 1))=it by
       rw [take_snoc HN.out,← HIS.out]
       conv=>rhs;rw [importsL,if_neg hni,if_neg (by simp;intro h;rw [h] at hsn;cases hsn)])
      clear hni hsn;go_wp2_with fail;refine HCT.out.mono ?_;rintro _ _ ⟨rfl,hw⟩;have hw:=hw.symm;subst hw;go_wp2_with fail;exact⟨⟨k + 1,by go_num,by omega,HNX.out,HC.out⟩,by simp [intOf];omega⟩
  ·have HRS:=zh (show tgt = .of (behindL m seen) by
    rw [HTG.out];refine check_rest ?_;rw [← HIT.out,← HIN.out,List.drop_eq_nil_of_le (by omega)];rfl)
   obtain⟨wL,hwL⟩ : ∃ x,x=wr:=⟨_,rfl⟩
   subst hwL;obtain⟨wN,hwN⟩ : ∃ x,wL.alloc (.map #[] 0)=x:=⟨_,rfl⟩
   have HCN:=zh (show Chg [] w0 wN from HC.out.then (by rw [← hwN];exact(Chg.refl [] wL).alloc _));have HAD:=zh (show HadIs wN wL.heap.size [] by rw [← hwN];exact HadIs.made wL);have hcs:=HC.out.size;have m2:=(HMB.out.kept HCN.out (by simp)).cell 2 _ rfl;clear HIN HIT HTG HC;go_wp2_with fail;clear hwN m2 hk hlt
   go_loopw [11,56] (fun _ i wr=>∃ (k:Nat) (had:List (List UInt8)),i = .int .i64 k∧k≤m.vars.length∧Chg [] w0 wr∧HadIs wr wL.heap.size had∧onceL had ((m.vars.drop k).map (fun g=>(g.name,g.pos)) ++ m.procs.map fun x=>(x.name,x.pos))=onceL [] (m.vars.map (fun g=>(g.name,g.pos)) ++ m.procs.map fun x=>(x.name,x.pos))) (fun _ i _=>m.vars.length - (intOf i).toNat)
   case atStart=>exact⟨0,[],rfl,Nat.zero_le _,HCN.out,HAD.out,rfl⟩
   case round=>
    obtain⟨k,had,rfl,hk,hc,hhad,hon⟩:=hrel;have HC:=zh hc;have HH:=zh hhad;have HON:=zh hon;clear hc hhad hon;by_cases hlt : k < m.vars.length
    ·obtain⟨g,hg⟩ : ∃ g,m.vars[k]?=some g:=⟨m.vars[k],List.getElem?_eq_getElem hlt⟩
     obtain⟨b,o,rfl,d0,d1,d2,d3⟩:=glob_cells (HVR.out.kept HC.out (by simp)) hg;have HOS:=zh (show onceL had ((g.name,g.pos) :: ((m.vars.drop (k + 1)).map (fun g=>(g.name,g.pos)) ++ m.procs.map fun x=>(x.name,x.pos)))=onceL [] (m.vars.map (fun g=>(g.name,g.pos)) ++ m.procs.map fun x=>(x.name,x.pos)) by
      rw [← HON.out,drop_cons hg];rfl)
     have hz:=Blk.new wr #[str [],.int .i64 0,.int .i64 0,.bool false] 68;obtain⟨wA,hwA⟩ : ∃ x,wr.alloc (.cells #[str [],.int .i64 0,.int .i64 0,.bool false] 68)=x:=⟨_,rfl⟩
     rw [hwA] at hz;have hcA:Chg [] wr wA:=by rw [← hwA];exact(Chg.refl _ _).alloc _
     obtain⟨wF,hwF,hcF,hbF⟩:=set4S (str g.name) (.int .i64 g.pos) (.int .i64 g.len) (.bool g.seen) hz;have hcw:Chg [] wr wF:=hcA.trans hcF (fun x hx=>.inr (by simp at hx;omega));have g0:=hcA.cellSome d0 (by simp);have g1:=hcA.cellSome d1 (by simp);have g2:=hcA.cellSome d2 (by simp);have g3:=hcA.cellSome d3 (by simp);have z0:=hz.cell 0 _ rfl;have z1:=hz.cell 1 _ rfl;have z2:=hz.cell 2 _ rfl;have z3:=hz.cell 3 _ rfl;have y0:=hz.frozen 0;have y1:=hz.frozen 1;have y2:=hz.frozen 2;have y3:=hz.frozen 3;have e0:=hbF.cell 0 _ rfl;have e1:=hbF.cell 1 _ rfl;have HCF:=zh (HC.out.then hcw);have hone:=once_any had g.name g.pos wL.heap.size wF (HH.out.kept hcw (by simp));clear hg hz hcA hcF hbF hcw;by_cases hgi : g.name∈had
     ·simp only [if_pos hgi] at hone
      have HON1:=zh hone;have HT:=zh (show tgt = .at_ 9 g.pos by
       rw [HRS.out,behindL,← HOS.out,onceL,if_pos hgi];rfl)
      clear hone hgi;go_wp2_with fail;refine HON1.out.mono ?_;rintro _ w9 ⟨hc9,b9,rfl,hl9,hb9⟩;have hs9:=HCF.out.size;have hss:=HS.out;have HC9:=zh (show Chg [] w w9 from(HCW.out.then HCF.out).trans hc9 (fun x hx=>.inr (by simp at hx <;> omega)));have HE9:=zh (show Blk w9 wm.heap.size #[.nilIface] 34 from(HEB.out.kept HCF.out (by simp)).kept hc9 (by simp <;> omega));have HB9:=zh hb9;have HL9:=zh hl9;clear hc9 hb9 hl9 hss;go_wp2_with fail;refine cleave_thrown _ _ _ _ _ _ rfl HE9.out (fun w' hc=>?_);have hss:=HS.out;have hl9:=HL9.out;rw [HT.out];exact⟨HC9.out.trans hc (fun x hx=>.inr (by simp at hx <;> omega)),b9,rfl,by omega,HB9.out.kept hc (by simp <;> omega)⟩
     ·simp only [if_neg hgi] at hone
      have HON1:=zh hone;have HNX:=zh (show onceL (g.name :: had) ((m.vars.drop (k + 1)).map (fun g=>(g.name,g.pos)) ++ m.procs.map fun x=>(x.name,x.pos))=onceL [] (m.vars.map (fun g=>(g.name,g.pos)) ++ m.procs.map fun x=>(x.name,x.pos)) by
       rw [← HOS.out]
       conv=>rhs;rw [onceL,if_neg hgi])
      clear hone hgi;go_wp2_with fail;refine HON1.out.mono ?_;rintro _ w4 ⟨rfl,hc4,hh4⟩;have HC4:=zh (show Chg [] w0 w4 from HCF.out.trans hc4 (fun x hx=>.inr (by simp at hx;omega)));have HH4:=zh hh4;clear hc4 hh4;go_wp2_with fail;exact⟨⟨k + 1,g.name :: had,by go_num,by omega,HC4.out,HH4.out,HNX.out⟩,by simp [intOf];omega⟩
    ·have HRO:=zh (show onceL had (m.procs.map fun x=>(x.name,x.pos))=onceL [] (m.vars.map (fun g=>(g.name,g.pos)) ++ m.procs.map fun x=>(x.name,x.pos)) by
      rw [← HON.out,List.drop_eq_nil_of_le (by omega)];rfl)
     obtain⟨wP,hwP⟩ : ∃ x,x=wr:=⟨_,rfl⟩
     subst hwP;have m3:=(HMB.out.kept HC.out (by simp)).cell 3 _ rfl;have HCP:=zh HC.out;have HHP:=zh HH.out;clear HON HC HH;go_wp2_with fail;clear m3 hk hlt
     go_loopw [13,70] (fun _ i wr=>∃ (k:Nat) (had:List (List UInt8)),i = .int .i64 k∧k≤m.procs.length∧Chg [] w0 wr∧HadIs wr wL.heap.size had∧onceL had ((m.procs.drop k).map fun x=>(x.name,x.pos))=onceL [] (m.vars.map (fun g=>(g.name,g.pos)) ++ m.procs.map fun x=>(x.name,x.pos))) (fun _ i _=>m.procs.length - (intOf i).toNat)
     case atStart=>exact⟨0,_,rfl,Nat.zero_le _,HCP.out,HHP.out,HRO.out⟩
     case round=>
      obtain⟨k,had,rfl,hk,hc,hhad,hon⟩:=hrel;have HC:=zh hc;have HH:=zh hhad;have HON:=zh hon;clear hc hhad hon;by_cases hlt : k < m.procs.length
      ·obtain⟨x,hx⟩ : ∃ x,m.procs[k]?=some x:=⟨m.procs[k],List.getElem?_eq_getElem hlt⟩
       obtain⟨cs1,d,cs',hpe,hl1,_,_,_,rfl,⟨p1,q1,rfl,hq1,hr1⟩,⟨p2,q2,rfl,hq2,hr2⟩,⟨p3,q3,bs3,rfl,hq3,hr3,hs3⟩⟩:=prsAt_at HPS.out hx;have hrw:=HPR.out.kept HC.out (by simp);rw [hpe] at hrw;obtain⟨b,o,rfl,d0,d1,d2,d3,d4,d5⟩:=cells6S (cs':=cs') hrw hl1;clear hrw hpe;clear hl1 hr1 hr2 hr3 hs3;have hz:=Blk.new wr #[str [],.int .i64 0,.bool false,nils,nils,nils] 72;obtain⟨wA,hwA⟩ : ∃ x,wr.alloc (.cells #[str [],.int .i64 0,.bool false,nils,nils,nils] 72)=x:=⟨_,rfl⟩
       rw [hwA] at hz;have hcA:Chg [] wr wA:=by rw [← hwA];exact(Chg.refl _ _).alloc _
       obtain⟨wF,hwF,hcF,hbF⟩:=set6S (str x.name) (.int .i64 x.pos) (.bool x.seen) (.slice p1 x.params.length q1) (.slice p2 x.vars.length q2) (.slice p3 x.body.len q3) hz;have hcw:Chg [] wr wF:=hcA.trans hcF (fun x hx=>.inr (by simp at hx;omega));have g0:=hcA.cellSome d0 (by simp);have g1:=hcA.cellSome d1 (by simp);have g2:=hcA.cellSome d2 (by simp);have g3:=hcA.cellSome d3 (by simp);have g4:=hcA.cellSome d4 (by simp);have g5:=hcA.cellSome d5 (by simp);have z0:=hz.cell 0 _ rfl;have z1:=hz.cell 1 _ rfl;have z2:=hz.cell 2 _ rfl;have z3:=hz.cell 3 _ rfl;have z4:=hz.cell 4 _ rfl;have z5:=hz.cell 5 _ rfl;have y0:=hz.frozen 0;have y1:=hz.frozen 1;have y2:=hz.frozen 2;have y3:=hz.frozen 3;have y4:=hz.frozen 4;have y5:=hz.frozen 5;have e0:=hbF.cell 0 _ rfl;have e1:=hbF.cell 1 _ rfl;have HCF:=zh (HC.out.then hcw);have HBF:=zh hbF;have HOS:=zh (show onceL had ((x.name,x.pos) :: (m.procs.drop (k + 1)).map fun x=>(x.name,x.pos))=onceL [] (m.vars.map (fun g=>(g.name,g.pos)) ++ m.procs.map fun x=>(x.name,x.pos)) by
        rw [← HON.out,drop_cons hx];rfl)
       have hone:=once_any had x.name x.pos wL.heap.size wF (HH.out.kept hcw (by simp));clear hx hz hcA hcF hbF hcw;by_cases hgi : x.name∈had
       ·simp only [if_pos hgi] at hone
        have HON1:=zh hone;have HT:=zh (show tgt = .at_ 9 x.pos by
         rw [HRS.out,behindL,← HOS.out,onceL,if_pos hgi];rfl)
        clear hone hgi;go_wp2_with fail;refine HON1.out.mono ?_;rintro _ w9 ⟨hc9,b9,rfl,hl9,hb9⟩;have hs9:=HCF.out.size;have hss:=HS.out;have HC9:=zh (show Chg [] w w9 from(HCW.out.then HCF.out).trans hc9 (fun x hx=>.inr (by simp at hx <;> omega)));have HE9:=zh (show Blk w9 wm.heap.size #[.nilIface] 34 from(HEB.out.kept HCF.out (by simp)).kept hc9 (by simp <;> omega));have HB9:=zh hb9;have HL9:=zh hl9;clear hc9 hb9 hl9 hss;go_wp2_with fail;refine cleave_thrown _ _ _ _ _ _ rfl HE9.out (fun w' hc=>?_);have hss:=HS.out;have hl9:=HL9.out;rw [HT.out];exact⟨HC9.out.trans hc (fun x hx=>.inr (by simp at hx <;> omega)),b9,rfl,by omega,HB9.out.kept hc (by simp <;> omega)⟩
       ·simp only [if_neg hgi] at hone
        have HON1:=zh hone;have HNX:=zh (show onceL (x.name :: had) ((m.procs.drop (k + 1)).map fun x=>(x.name,x.pos))=onceL [] (m.vars.map (fun g=>(g.name,g.pos)) ++ m.procs.map fun x=>(x.name,x.pos)) by
         rw [← HOS.out]
         conv=>rhs;rw [onceL,if_neg hgi])
        clear hone hgi;go_wp2_with fail;refine HON1.out.mono ?_;rintro _ w4 ⟨rfl,hc4,hh4⟩;have HC4:=zh (show Chg [] w0 w4 from HCF.out.trans hc4 (fun x hx=>.inr (by simp at hx;omega)));have HH4:=zh hh4;clear hc4 hh4;go_wp2_with fail;exact⟨⟨k + 1,x.name :: had,by go_num,by omega,HC4.out,HH4.out,HNX.out⟩,by simp [intOf];omega⟩
      ·have HRS:=zh (show tgt = .of ((procsL m seen m.procs).or (Check.bodyL ⟨m.imports,seen,[],m.vars,m.procs⟩ m.body)) by
        have h0 : onceL [] (m.vars.map (fun g=>(g.name,g.pos)) ++ m.procs.map fun x=>(x.name,x.pos))=none:=by
         rw [← HON.out,List.drop_eq_nil_of_le (by omega)];rfl
        rw [HRS.out,behindL,h0];rfl)
       obtain⟨wQ,hwQ⟩ : ∃ x,x=wr:=⟨_,rfl⟩
       subst hwQ;have m3:=(HMB.out.kept HC.out (by simp)).cell 3 _ rfl;have HCP:=zh HC.out;clear HON HC HH;go_wp2_with fail;clear m3 hk hlt
       go_loopw [15,16,17,19,84] (fun _ _ _ _ i wr=>∃ k:Nat,i = .int .i64 k∧k≤m.procs.length∧Chg [] w0 wr∧Check.procsL m seen (m.procs.drop k)=Check.procsL m seen m.procs) (fun _ _ _ _ i _=>m.procs.length - (intOf i).toNat)
       case atStart=>exact⟨0,rfl,Nat.zero_le _,HCP.out,rfl⟩
       case round=>
        obtain⟨k,rfl,hk,hc,hon⟩:=hrel;have HC:=zh hc;have HON:=zh hon;clear hc hon;by_cases hlt : k < m.procs.length
        ·obtain⟨x,hx⟩ : ∃ x,m.procs[k]?=some x:=⟨m.procs[k],List.getElem?_eq_getElem hlt⟩
         obtain⟨cs1,d,cs',hpe,hl1,_,_,_,rfl,⟨p1,q1,rfl,hq1,hr1⟩,⟨p2,q2,rfl,hq2,hr2⟩,⟨p3,q3,bs3,rfl,hq3,hr3,hs3⟩⟩:=prsAt_at HPS.out hx;have hrw:=HPR.out.kept HC.out (by simp);rw [hpe] at hrw;obtain⟨b,o,rfl,d0,d1,d2,d3,d4,d5⟩:=cells6S (cs':=cs') hrw hl1;clear hrw hpe;have HR1:=zh hr1;have HR2:=zh hr2;have HR3:=zh hr3;have HS3:=zh hs3;clear hl1 hr1 hr2 hr3 hs3;have hz:=Blk.new wr #[str [],.int .i64 0,.bool false,nils,nils,nils] 72;obtain⟨wA,hwA⟩ : ∃ x,wr.alloc (.cells #[str [],.int .i64 0,.bool false,nils,nils,nils] 72)=x:=⟨_,rfl⟩
         rw [hwA] at hz;have hcA:Chg [] wr wA:=by rw [← hwA];exact(Chg.refl _ _).alloc _
         obtain⟨wF,hwF,hcF,hbF⟩:=set6S (str x.name) (.int .i64 x.pos) (.bool x.seen) (.slice p1 x.params.length q1) (.slice p2 x.vars.length q2) (.slice p3 x.body.len q3) hz;have hcw:Chg [] wr wF:=hcA.trans hcF (fun x hx=>.inr (by simp at hx;omega));have g0:=hcA.cellSome d0 (by simp);have g1:=hcA.cellSome d1 (by simp);have g2:=hcA.cellSome d2 (by simp);have g3:=hcA.cellSome d3 (by simp);have g4:=hcA.cellSome d4 (by simp);have g5:=hcA.cellSome d5 (by simp);have z0:=hz.cell 0 _ rfl;have z1:=hz.cell 1 _ rfl;have z2:=hz.cell 2 _ rfl;have z3:=hz.cell 3 _ rfl;have z4:=hz.cell 4 _ rfl;have z5:=hz.cell 5 _ rfl;have y0:=hz.frozen 0;have y1:=hz.frozen 1;have y2:=hz.frozen 2;have y3:=hz.frozen 3;have y4:=hz.frozen 4;have y5:=hz.frozen 5;have e0:=hbF.cell 0 _ rfl;have e1:=hbF.cell 1 _ rfl;have HCF:=zh (HC.out.then hcw);have HBF:=zh hbF;have HPN:=zh (show (Check.procL m seen x).or (Check.procsL m seen (m.procs.drop (k + 1)))=Check.procsL m seen m.procs by
          rw [← HON.out,drop_cons hx];rfl)
         have hxm : x∈m.procs:=List.mem_of_getElem? hx;have HPB:=zh (HM.out.bodies x hxm);obtain⟨hxp,hxv⟩:=HM.out.params x hxm;clear hx hxm hz hcA hcF hbF hcw;go_wp2_with fail;clear hwA hwF d0 d1 d2 d3 d4 d5 g0 g1 g2 g3 g4 g5 z0 z1 z2 z3 z4 z5 y0 y1 y2 y3 y4 y5 e0 e1;obtain⟨wR,hwR⟩ : ∃ x,x=wr:=⟨_,rfl⟩
         subst hwR;obtain⟨wD,hwD⟩ : ∃ x,x=wF.drew:=⟨_,rfl⟩
         have HCD:=zh (show Chg [] w0 wD by rw [hwD];exact HCF.out.drew);have HBD:=zh (show Blk wD wR.heap.size #[str x.name,.int .i64 x.pos,.bool x.seen,.slice p1 x.params.length q1,.slice p2 x.vars.length q2,.slice p3 x.body.len q3] 72 by rw [hwD];exact HBF.out);have HMD:=zh (HMB.out.kept HCD.out (by simp));have m0:=HMD.out.cell 0 _ rfl;have m1:=HMD.out.cell 1 _ rfl;have m2:=HMD.out.cell 2 _ rfl;have m3:=HMD.out.cell 3 _ rfl;have m4:=HMD.out.cell 4 _ rfl;have b3:=HBD.out.cell 3 _ rfl;have b4:=HBD.out.cell 4 _ rfl;have hk:=Blk.new wD #[.slice p1 x.params.length q1,.slice p2 x.vars.length q2] 27;obtain⟨wK,hwK⟩ : ∃ y,wD.alloc (.cells #[.slice p1 x.params.length q1,.slice p2 x.vars.length q2] 27)=y:=⟨_,rfl⟩
         rw [hwK] at hk;have hcK:Chg [] wD wK:=by rw [← hwK];exact(Chg.refl _ _).alloc _
         have HCK:=zh (HCD.out.then hcK);have HDK:=zh hcK;have hsK : wK.heap.size=wD.heap.size + 1:=by rw [← hwK];simp
         have hcc:=concat_any x.params x.vars (by omega) (by omega) wD.heap.size q1 q2 p1 p2 F wK (hk.cell 0 _ rfl) (hk.cell 1 _ rfl) ⟨p1,q1,rfl,hq1,HR1.out.kept HCK.out (by simp)⟩ ⟨p2,q2,rfl,hq2,HR2.out.kept HCK.out (by simp)⟩;obtain⟨L,hL⟩ : ∃ L,L=x.params ++ x.vars:=⟨_,rfl⟩
         have hLl:L.length≤20:=by rw [hL,List.length_append];omega
         rw [← hL] at hcc;have HCC:=zh hcc;have HLE:=zh hL;clear hcc hL;have HSK:=zh hsK;have HLR:=zh (show wR.heap.size < wD.heap.size from HBD.out.lt);have HLM:=zh (show w.heap.size < wD.heap.size from HMD.out.lt);clear hk hcK hsK;refine wp_region_C [] rfl (by kernel_rfl) ?_;rw [← hwD];clear hwD;have hS:Chg [] wD wD:=Chg.refl _ _
         repeat ((with_reducible refine gX ?_);(first|refine wpX_nil ?_|refine sK ?_|refine sM fun _ _=>?_|refine sL fun _ _=>?_|refine sE fun _ _=>?_);go_wp2_with fail)
         refine And.intro HDK.out ?_;have hS1:=HDK.out
         repeat ((with_reducible refine gX ?_);(first|refine wpX_nil ?_|refine sK ?_|refine sM fun _ _=>?_|refine sL fun _ _=>?_|refine sE fun _ _=>?_);go_wp2_with fail)
         refine HCC.out.mono ?_;rintro _ wC ⟨lv,rfl,hnl,hcC⟩;obtain⟨la,lc,rfl,hlc,hlr⟩:=hnl;have hS2:Chg [] wD wC:=HDK.out.then hcC
         have HCCw:=zh (HCK.out.then hcC);have hszC:=hcC.size;have HLRow:=zh hlr;obtain⟨wB,hwB⟩ : ∃ y,wC.alloc (.cells #[str m.name,.slice ai m.imports.length ci,.slice av m.vars.length cv,(.slice (some ⟨b,o,none⟩) m.procs.length cp),.slice ab m.body.len cb,.map ov,.slice la L.length lc] 157)=y:=⟨_,rfl⟩
         have hck:=Blk.new wC #[str m.name,.slice ai m.imports.length ci,.slice av m.vars.length cv,(.slice (some ⟨b,o,none⟩) m.procs.length cp),.slice ab m.body.len cb,.map ov,.slice la L.length lc] 157;rw [hwB] at hck;have hcB:Chg [] wC wB:=by rw [← hwB];exact(Chg.refl _ _).alloc _
         have hsB : wB.heap.size=wC.heap.size + 1:=by rw [← hwB];simp
         have HSB2:=zh (show Chg [] wD wB from hS2.then hcB);obtain⟨wM,hwM⟩ : ∃ y,wB.alloc (.map #[] 0)=y:=⟨_,rfl⟩
         have hcM:Chg [] wB wM:=by rw [← hwM];exact(Chg.refl _ _).alloc _
         have HAD:=zh (show HadIs wM wB.heap.size [] by rw [← hwM];exact HadIs.made wB);have HCM:=zh ((HCCw.out.then hcB).then hcM);have HKM:=zh (hck.kept hcM (by simp));have HLM2:=zh ((hlr.kept hcB (by simp)).kept hcM (by simp));have HBP:=zh (((HBD.out.kept hS2 (by simp)).kept hcB (by simp)).kept hcM (by simp));have c6:=HKM.out.cell 6 _ rfl;have hsz : w0.heap.size≤wK.heap.size:=HCK.out.size;have HSZ:=zh (And.intro hszC (And.intro hsB hsz));clear hcC hlr hck hcB hsB hcM hszC hsz;go_wp2_with fail;refine And.intro hS2 ?_
         repeat ((with_reducible refine gX ?_);(first|refine wpX_nil ?_|refine sK ?_|refine sM fun _ _=>?_|refine sL fun _ _=>?_|refine sE fun _ _=>?_);go_wp2_with fail)
         refine And.intro HSB2.out ?_
         repeat ((with_reducible refine gX ?_);(first|refine wpX_nil ?_|refine sK ?_|refine sM fun _ _=>?_|refine sL fun _ _=>?_|refine sE fun _ _=>?_);go_wp2_with fail)
         clear hS hS1 hS2 m0 m1 m2 m3 m4 b3 b4;go_wp2_with fail;clear hwK hwB hwM c6
         go_loopw [19,104] (fun _ i wr=>∃ (j:Nat) (had:List (List UInt8)),i = .int .i64 j∧j≤L.length∧Chg [wB.heap.size] wM wr∧HadIs wr wB.heap.size had∧onceL had ((L.drop j).map fun n=>(n,x.pos))=onceL [] (L.map fun n=>(n,x.pos))) (fun _ i _=>L.length - (intOf i).toNat)
         case atStart=>exact⟨0,[],rfl,Nat.zero_le _,Chg.refl _ _,HAD.out,rfl⟩
         case round=>
          obtain⟨j,had,rfl,hj,hc,hhad,hon⟩:=hrel;have hsz:=HSZ.out;have HC5:=zh (show Chg [] w0 wr from HCM.out.trans hc (fun x hx=>.inr (by simp at hx;omega)));have HH:=zh hhad;have HON5:=zh hon;have HC:=zh hc;have hbp:=HBP.out.kept hc (by have:=HLR.out;have:=HSK.out;simp;omega);have q1:=hbp.cell 1 _ rfl;have q5:=hbp.cell 5 _ rfl;clear hc hhad hon hbp;by_cases hlj : j < L.length
          ·obtain⟨n,hn⟩ : ∃ n,L[j]?=some n:=⟨L[j],List.getElem?_eq_getElem hlj⟩
           obtain⟨b8,o8,rfl,d0⟩:=names_cell (HLM2.out.kept HC.out (fun y hy hn=>by simp at hy;have:=hn.2;omega)) hn;have HOS:=zh (show onceL had ((n,x.pos) :: (L.drop (j + 1)).map fun n=>(n,x.pos))=onceL [] (L.map fun n=>(n,x.pos)) by
            rw [← HON5.out,drop_cons hn];rfl)
           have hone:=once_any had n x.pos wB.heap.size wr HH.out;clear hn hsz;by_cases hgi : n∈had
           ·simp only [if_pos hgi] at hone
            have HON1:=zh hone;have HT:=zh (show tgt = .at_ 9 x.pos by
             have h1 : onceL [] ((x.params ++ x.vars).map fun n=>(n,x.pos))=some (9,x.pos):=by
              rw [← HLE.out,← HOS.out,onceL,if_pos hgi]
             rw [HRS.out,← HPN.out,Check.procL,h1];rfl)
            clear hone hgi;go_wp2_with fail;have hsz:=HSZ.out;refine HON1.out.mono ?_;rintro _ w9 ⟨hc9,b9,rfl,hl9,hb9⟩;have hs9:=HC5.out.size;have hss:=HS.out;have HC9:=zh (show Chg [] w w9 from(HCW.out.then HC5.out).trans hc9 (fun x hx=>.inr (by simp at hx <;> omega)));have HE9:=zh (show Blk w9 wm.heap.size #[.nilIface] 34 from(HEB.out.kept HC5.out (by simp)).kept hc9 (by simp <;> omega));have HB9:=zh hb9;have HL9:=zh hl9;clear hc9 hb9 hl9 hss;go_wp2_with fail;refine cleave_thrown _ _ _ _ _ _ rfl HE9.out (fun w' hc=>?_);have hss:=HS.out;have hl9:=HL9.out;rw [HT.out];exact⟨HC9.out.trans hc (fun x hx=>.inr (by simp at hx <;> omega)),b9,rfl,by omega,HB9.out.kept hc (by simp <;> omega)⟩
           ·simp only [if_neg hgi] at hone
            have HON1:=zh hone;have HNX:=zh (show onceL (n :: had) ((L.drop (j + 1)).map fun n=>(n,x.pos))=onceL [] (L.map fun n=>(n,x.pos)) by
             rw [← HOS.out]
             conv=>rhs;rw [onceL,if_neg hgi])
            clear hone hgi;go_wp2_with fail;refine HON1.out.mono ?_;rintro _ w4 ⟨rfl,hc4,hh4⟩;have HC4:=zh (HC.out.then hc4);have HH4:=zh hh4;clear hc4 hh4;go_wp2_with fail;exact⟨⟨j + 1,n :: had,by go_num,by omega,HC4.out,HH4.out,HNX.out⟩,by simp [intOf];omega⟩
          ·have h1 : onceL [] (L.map fun n=>(n,x.pos))=none:=by
            rw [← HON5.out,List.drop_eq_nil_of_le (by omega)];rfl
           obtain⟨cv',hcv⟩ : ∃ c:Env,c=⟨m.imports,seen,L,m.vars,m.procs⟩:=⟨_,rfl⟩
           have HPL:=zh (show Check.procL m seen x=Check.bodyL cv' x.body by rw [Check.procL,← HLE.out,h1,hcv];rfl);have hev:EnvAt wr (fun y=>F y∨(w0.heap.size≤y∧y < wB.heap.size)) cv' wC.heap.size:=by
            rw [hcv];exact⟨(.inr ⟨by omega,by omega⟩),HM.out.imports,by show L.length≤1000;omega,HM.out.vars,HM.out.procs,m.name,.slice ai m.imports.length ci,.slice av m.vars.length cv,.slice (some ⟨b,o,none⟩) m.procs.length cp,.slice ab m.body.len cb,.map ov,.slice la L.length lc,HKM.out.kept HC.out (by simp;omega),
             ⟨ai,ci,rfl,hi1,(HIR.out.kept HC5.out (by simp)).mono (fun y hy=>.inl hy)⟩,⟨av,cv,rfl,hv1,(HVR.out.kept HC5.out (by simp)).mono (fun y hy=>.inl hy)⟩,procsL_of (ProcsAt.mono (fun y hy=>.inl hy) ⟨some ⟨b,o,none⟩,cp,pcs,rfl,hp1,HPR.out.kept HC5.out (by simp),HPS.out.kept HC5.out (by simp)⟩),(HSN.out.kept HC5.out (by simp)).mono (fun y hy=>.inl hy),⟨la,lc,rfl,hlc,(HLM2.out.kept HC.out (fun y hy hn=>by simp at hy;have:=hn.2;omega)).mono (fun y hy=>.inr ⟨by have:=hy.1;omega,by have:=hy.2;omega⟩)⟩⟩
           have HBC:=zh (cbody_any cv' _ wC.heap.size x.body HPB.out.1 HPB.out.2 (.slice p3 x.body.len q3) wr hev (SlAt.mono (fun y hy=>.inl hy) ⟨p3,q3,bs3,rfl,hq3,HR3.out.kept HC5.out (by simp),HS3.out.kept HC5.out (by simp)⟩));clear h1 hev hcv;cases hbl:Check.bodyL cv' x.body with
           | none=>
            rw [hbl] at HBC;have HNX:=zh (show Check.procsL m seen (m.procs.drop (k + 1))=Check.procsL m seen m.procs by
             rw [← HPN.out,HPL.out,hbl];rfl)
            clear hbl hsz;go_wp2_with fail;refine HBC.out.mono ?_;rintro _ w5 ⟨hc5,rfl⟩;have HC6:=zh (HC5.out.then hc5);clear hc5;go_wp2_with fail;exact⟨⟨k + 1,by go_num,by omega,HC6.out,HNX.out⟩,by simp [intOf];omega⟩
           | some y=>
            obtain⟨en,q⟩:=y;rw [hbl] at HBC;have HT:=zh (show tgt = .at_ en q by rw [HRS.out,← HPN.out,HPL.out,hbl];rfl);clear hbl hsz;go_wp2_with fail;have hsz:=HSZ.out;refine HBC.out.mono ?_;rintro _ w9 ⟨hc9,b9,rfl,hl9,hb9⟩;have hs9:=HC5.out.size;have hss:=HS.out;have HC9:=zh (show Chg [] w w9 from(HCW.out.then HC5.out).trans hc9 (fun x hx=>.inr (by simp at hx <;> omega)));have HE9:=zh (show Blk w9 wm.heap.size #[.nilIface] 34 from(HEB.out.kept HC5.out (by simp)).kept hc9 (by simp <;> omega));have HB9:=zh hb9;have HL9:=zh hl9;clear hc9 hb9 hl9 hss;go_wp2_with fail;refine cleave_thrown _ _ _ _ _ _ rfl HE9.out (fun w' hc=>?_);have hss:=HS.out;have hl9:=HL9.out;rw [HT.out];exact⟨HC9.out.trans hc (fun x hx=>.inr (by simp at hx <;> omega)),b9,rfl,by omega,HB9.out.kept hc (by simp <;> omega)⟩
        ·have HRT:=zh (show tgt = .of (Check.bodyL ⟨m.imports,seen,[],m.vars,m.procs⟩ m.body) by
          have h0:Check.procsL m seen m.procs=none:=by rw [← HON.out,List.drop_eq_nil_of_le (by omega)];rfl
          rw [HRS.out,h0];rfl)
         have HMD:=zh (HMB.out.kept HC.out (by simp));have m0:=HMD.out.cell 0 _ rfl;have m1:=HMD.out.cell 1 _ rfl;have m2:=HMD.out.cell 2 _ rfl;have m3:=HMD.out.cell 3 _ rfl;have m4:=HMD.out.cell 4 _ rfl;obtain⟨wB,hwB⟩ : ∃ y,wr.alloc (.cells #[str m.name,.slice ai m.imports.length ci,.slice av m.vars.length cv,.slice ap m.procs.length cp,.slice ab m.body.len cb,.map ov,nils] 157)=y:=⟨_,rfl⟩
         have hck:=Blk.new wr #[str m.name,.slice ai m.imports.length ci,.slice av m.vars.length cv,.slice ap m.procs.length cp,.slice ab m.body.len cb,.map ov,nils] 157;rw [hwB] at hck;have hcB:Chg [] wr wB:=by rw [← hwB];exact(Chg.refl _ _).alloc _
         have HCB:=zh (HC.out.then hcB);have HKB:=zh hck;have n4 : wB.cell? ⟨w.heap.size,4,none⟩=_:=hcB.cellSome m4 (by simp);obtain⟨cv',hcv⟩ : ∃ c:Env,c=⟨m.imports,seen,[],m.vars,m.procs⟩:=⟨_,rfl⟩
         have hev:EnvAt wB (fun y=>F y∨y=wr.heap.size) cv' wr.heap.size:=by
          rw [hcv];exact⟨(.inr rfl),HM.out.imports,by show ([] : List (List UInt8)).length≤1000;simp,HM.out.vars,HM.out.procs,m.name,.slice ai m.imports.length ci,.slice av m.vars.length cv,.slice ap m.procs.length cp,.slice ab m.body.len cb,.map ov,nils,HKB.out,
           ⟨ai,ci,rfl,hi1,(HIR.out.kept HCB.out (by simp)).mono (fun y hy=>.inl hy)⟩,⟨av,cv,rfl,hv1,(HVR.out.kept HCB.out (by simp)).mono (fun y hy=>.inl hy)⟩,procsL_of (ProcsAt.mono (fun y hy=>.inl hy) ⟨ap,cp,pcs,rfl,hp1,HPR.out.kept HCB.out (by simp),HPS.out.kept HCB.out (by simp)⟩),(HSN.out.kept HCB.out (by simp)).mono (fun y hy=>.inl hy),NamesAt.nil⟩
         have HBC:=zh (cbody_any cv' _ wr.heap.size m.body HM.out.body.1 HM.out.body.2 (.slice ab m.body.len cb) wB hev ((HSB.out.kept HCB.out (by simp)).mono (fun y hy=>.inl hy)));have HRT:=zh (show tgt = .of (Check.bodyL cv' m.body) by rw [hcv];exact HRT.out);clear hck hcB hev hcv HON;cases hbl:Check.bodyL cv' m.body with
         | none=>
          rw [hbl] at HBC HRT;clear hbl;go_wp2_with fail;clear hwB m0 m1 m2 m3 m4 n4;refine HBC.out.mono ?_;rintro _ w5 ⟨hc5,rfl⟩;have HC:=zh (HCB.out.then hc5);clear hc5;have e0:=(HEB.out.kept HC.out (by simp)).cell 0 _ rfl;have f0:=(HEB.out.kept HC.out (by simp)).frozen 0;obtain⟨wE,hwE⟩ : ∃ x,w5.setCell ⟨wm.heap.size,0,none⟩ (.nilIface)=x:=⟨_,rfl⟩
          have HCE:=zh (show Chg [wm.heap.size] w5 wE by rw [← hwE];exact Chg.set1 _ _ _ _);have HBE:=zh (show Blk wE wm.heap.size #[.nilIface] 34 by rw [← hwE];simpa using (HEB.out.kept HC.out (by simp)).set 0 (.nilIface));go_wp2_with fail;have hss:=HS.out;exact cleave_idle _ _ _ _ _ rfl HBE.out (by rw [HRT.out];exact⟨(HCW.out.then HC.out).trans HCE.out (fun x hx=>.inr (by simp at hx;omega)),rfl⟩)
         | some y=>
          obtain⟨en,q⟩:=y;rw [hbl] at HBC HRT;clear hbl;go_wp2_with fail;clear hwB m0 m1 m2 m3 m4 n4;refine HBC.out.mono ?_;rintro _ w9 ⟨hc9,b9,rfl,hl9,hb9⟩;have hs9:=HCB.out.size;have hss:=HS.out;have HC9:=zh (show Chg [] w w9 from(HCW.out.then HCB.out).trans hc9 (fun x hx=>.inr (by simp at hx <;> omega)));have HE9:=zh (show Blk w9 wm.heap.size #[.nilIface] 34 from(HEB.out.kept HCB.out (by simp)).kept hc9 (by simp <;> omega));have HB9:=zh hb9;have HL9:=zh hl9;clear hc9 hb9 hl9 hss;go_wp2_with fail;refine cleave_thrown _ _ _ _ _ _ rfl HE9.out (fun w' hc=>?_);have hss:=HS.out;have hl9:=HL9.out;rw [HRT.out];exact⟨HC9.out.trans hc (fun x hx=>.inr (by simp at hx <;> omega)),b9,rfl,by omega,HB9.out.kept hc (by simp <;> omega)⟩
end Go.Proofs.YtechofppmnnomaaGreatDoor
