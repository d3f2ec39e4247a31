/- Some texts in one. -/
import Derived.Lib.AppendZerosOnto
import Derived.Defers
import Derived.Recover
import Derived.Test.YtechofppmnnomaaGreatDoorB18
namespace Go.Mq.Check
open Go Go.RowKit Go.Mq Go.Mq.Tree Go.Mq.Sym
section
variable {P:Program} {ops:Array Oper} {o:Oper} {rest:List Oper} {a:Act} {w:World} {Q:Exit→Act→World→Prop}
theorem aaY (hgd : o.guard=none) (s x:Operand) (t u:TypeId) (ho : o.op = .call { callee:=.builtin .append,args:=#[s,x],argTypes:=#[t,u] })
  (v y v':Value) (w':World) (hs : a.eval s=v) (hx : a.eval x=y) (hr : (Builtin.append_ #[t,u] o.type #[v,y]).run P w = .ok v' w')
  (h : wpList P ops Q rest (a.put o.dst v') w') : wpList P ops Q (o :: rest) a w:=by
 refine wpList_plain hgd fun K hK=>?_
 unfold Oper.wp execOp
 simp only [ho,resolve,invoke,builtin,Sem.run_bind,Sem.run_pure,Result.andThen_ok,List.map_toArray,List.map_cons,List.map_nil,hs,hx,hr];exact hK _ _ h
end
end Go.Mq.Check
namespace Go.Proofs.YtechofppmnnomaaGreatDoor
open Go Go.RowKit Go.Mq Go.Mq.Tree Go.Mq.Sym Go.Mq.Check
set_option maxRecDepth 100000
set_option maxHeartbeats 2000000
theorem Ba : (Tryz.prog.info? 9).map (fun i=>(i.zero,i.size,i.bytes))=some (some (.string ⟨#[]⟩),1,16):=by kernel_rfl
theorem aaZ (n:Nat) (hn : n≤1000) (w:World):Calls Tryz.prog 113 #[ah,.int .i64 n] w (fun e w'=>∃ v,e = .returned v∧w'.ownsRow 0 9 1 v 0 []∧From w.heap.size v∧ae [] w w'):=by
 rcases Nat.eq_zero_or_pos n with rfl|h0
 ·go_enter Tryz.func113,Tryz.ntmps113
  go_wp2_with fail;go_ret
  exact⟨_,rfl,World.ownsRow_nil _ _ _ _,From.nil _,ae.refl _ _⟩
 ·obtain⟨i,hi,hz,hsize,hby⟩:=info_parts Ba
  obtain⟨cap,hcap⟩ : ∃ c,c=grownCap w n 0 9:=⟨_,rfl⟩
  obtain⟨w2,hw2⟩ : ∃ x,x=w.drew.alloc (.cells (([] : List Value).toArray ++ Builtin.zeroCells (Value.string ⟨#[]⟩).cells n ++ Builtin.zeroCells (Value.string ⟨#[]⟩).cells (cap - n)) 9):=⟨_,rfl⟩
  have hap : (Builtin.append_ #[27,3] 27 #[.slice none 0 0,.int .i64 n]).run Tryz.prog w = .ok (.slice (some ⟨w.heap.size,0,none⟩) n cap) w2:=by
   have h:=Lib.run_append_grow_zeros (P:=Tryz.prog) w 27 3 27 9 i (.string ⟨#[]⟩) .i64 .i64 Tryz.underlying27 Tryz.underlying3 hi hz none 0 0 [] (by rw [hsize];simp [Builtin.firstCells]) n h0 (by rw [hsize];omega) (by omega) (by omega) (by rw [hby];omega) (by rw [hby];exact growslice_fits (by omega) (by omega));simp only [Nat.zero_add] at h;rw [hw2,hcap];exact h
  have hge : n≤cap:=by rw [hcap];exact grownCap_ge w n 0 _
  have hle : cap≤maxLen:=by rw [hcap];exact grownCap_le_maxLen w n 0 _ (by unfold maxLen;omega)
  have hown : w2.ownsRow 0 9 1 (.slice (some ⟨w.heap.size,0,none⟩) 0 cap) 0 []:=⟨rfl,.inr ⟨w.heap.size,cap,_,rfl,Nat.zero_le _,by rw [hw2];exact heap_alloc_new w.drew _,Nat.zero_le _,hle,by
   have hz1 : (Value.string ⟨#[]⟩).cells.size=1:=rfl;simp only [Array.size_append,size_zeroCells,hz1];simp;omega,by simp⟩⟩
  have HO:=zh hown;have HAP:=zh hap;have HC:=zh (show ae [] w w2 by rw [hw2];exact((ae.refl [] w).drew).alloc _);have HF:=zh (show From w.heap.size (.slice (some ⟨w.heap.size,0,none⟩) 0 cap) from fun g hg=>by simp [blk] at hg;omega);have hcm : cap≤9223372036854775807:=by unfold maxLen at hle;omega
  clear hown hap hw2 hi hz hsize hby hcap hle
  go_enter Tryz.func113,Tryz.ntmps113
  go_wp2_with (at_builtin;go_must (refine aaY rfl _ _ 27 3 rfl _ _ _ w2 rfl rfl HAP.out ?_))
  go_wp2_with fail;go_ret
  exact⟨_,rfl,HO.out,HF.out,HC.out⟩
theorem Q0 (l:List (List UInt8)) : ∀ u∈l.map str,u.oneCell'=true:=by
 intro u hu;obtain⟨x,_,rfl⟩:=List.mem_map.1 hu
 rfl
theorem aa1 (l1 l2:List (List UInt8)) (h1 : l1.length≤100) (h2 : l2.length≤100) (bk k1 k2:Nat) (a1 a2:Option Addr) (F:Nat→Prop) (w:World) (d0 : w.cell? ⟨bk,0,none⟩=some (.slice a1 l1.length k1)) (d1 : w.cell? ⟨bk,1,none⟩=some (.slice a2 l2.length k2)) (hl1:eF w F l1 (.slice a1 l1.length k1)) (hl2:eF w F l2 (.slice a2 l2.length k2)) :
  Calls Tryz.prog 79 #[.slice (some ⟨bk,0,none⟩) 2 2] w (fun e w'=>∃ v,e = .returned v∧eF w' (New w w') (l1 ++ l2) v∧ae [] w w'):=by
 obtain⟨_,_,he,_,hr1⟩:=hl1;cases he
 obtain⟨_,_,he,_,hr2⟩:=hl2;cases he
 have HR1:=zh hr1;have HR2:=zh hr2;have HG:=zh (aaZ (l1.length + l2.length) (by omega) w);have D0:=zh d0;have D1:=zh d1;clear hr1 hr2
 go_enter Tryz.func79,Tryz.ntmps79
 go_wp2_with fail;refine wp_loop_rounds 3 ?_;rw [rounds_succ];go_wp2_with fail;rw [rounds_succ];go_wp2_with fail;rw [rounds_succ];go_wp2_with fail;refine HG.out.mono ?_;rintro _ w2 ⟨gv,rfl,hown,hf,hc⟩;obtain⟨ga,gc,rfl⟩:=gu hown;have HO:=zh hown;have HF:=zh hf;have HC:=zh hc;clear d0 d1;have d0:=hc.aH D0.out (by simp);have aa2:=zh ((HR1.out.kept hc (by simp)).at_);clear hown hf hc;go_wp2_with fail;refine wp_loop_rounds 3 ?_;rw [rounds_succ];go_wp2_with (at_builtin;go_must (refine CK rfl _ _ 27 rfl 9 _ 1 16 Ba Tryz.underlying27 rfl (by decide) _ 0 [] rfl HO.out a1 l1.length k1 (l1.map str) rfl (by simp) aa2.out (Q0 l1) (by omega) (by unfold maxLen;omega) ?_))
 intro v3 w3 hown3 hc3 kI;obtain⟨ga3,gc3,rfl⟩:=gu hown3;have hcw3:ae [] w w3:=HC.out.trans hc3 (fun x hx=>.inr (by have:=HF.out x hx;omega));have pY:=zh (show From w.heap.size (.slice ga3 l1.length gc3) from HF.out.moved kI HC.out.size);have wZ:=zh hown3;have bG:=zh hcw3;have aa5:=zh ((HR2.out.kept hcw3 (by simp)).at_);have hs3:=hcw3.size;clear d0;have d1:=hcw3.aH D1.out (by simp);clear hown3 hc3 kI hcw3;go_wp2_with fail;rw [rounds_succ];go_wp2_with (at_builtin;go_must (refine CK rfl _ _ 27 rfl 9 _ 1 16 Ba Tryz.underlying27 rfl (by decide) _ l1.length (l1.map str) rfl wZ.out a2 l2.length k2 (l2.map str) rfl (by simp) aa5.out (Q0 l2) (by omega) (by unfold maxLen;omega) ?_))
 intro v4 w4 KW hc4 iK;have qL:ae [] w w4:=bG.out.trans hc4 (fun x hx=>.inr (by have:=pY.out x hx;omega));have Q3:From w.heap.size v4:=pY.out.moved iK hs3;have lW:=zh (show eF w4 (New w w4) (l1 ++ l2) v4 by
  obtain⟨a,c,rfl,hac,hrow⟩:=Row.jF KW (F:=New w w4) (fun g hg=>⟨Q3 g hg,pM KW g hg⟩);refine⟨a,c,by simp,by simpa using hac,?_⟩;rw [List.map_append]
  simpa using hrow)
 have cz:=zh qL;clear KW hc4 iK qL Q3;go_wp2_with fail;rw [rounds_succ];go_wp2_with fail;go_ret
 exact⟨_,rfl,lW.out,cz.out⟩
end Go.Proofs.YtechofppmnnomaaGreatDoor
namespace Go.Mq.Check
open Go Go.RowKit Go.Mq Go.Mq.Tree Go.Mq.Sym
def aa6 (w:World) (o:Out) (e:Ending) (w':World):Prop:=ae [] w w'∧match o with
 | .fine=>e = .returned .nilIface
 | .plain n=>e = .returned (.iface 46 (.int .i64 n))
 | .at_ en p=>∃ b,e = .returned (.iface 140 (ptr b))∧w.heap.size≤b∧ag w' b #[.int .i64 en,.int .i64 p] 142
end Go.Mq.Check
namespace Go.Proofs.YtechofppmnnomaaGreatDoor
open Go Go.RowKit Go.Mq Go.Mq.Tree Go.Mq.Sym Go.Mq.Check
set_option maxRecDepth 100000
set_option maxHeartbeats 8000000
theorem aa7 (be:Nat) (w:World):CallsD Tryz.prog 77 #[ptr be] .returning w fun e u' w'=>
   e = .returned (.tuple #[])∧u' = .returning∧w'=w:=by
 refine callsD_of_wpS Tryz.func77 rfl fun c₀ cs hu=>?_
 rw [show (#[ptr be] ++ Array.replicate (Tryz.f77.ntmps - (#[ptr be] : Array Value).size) undef:Array Value) = #[ptr be,undef,undef,undef,undef,undef,undef,undef,undef,undef,undef,undef,undef,undef,undef,undef,undef] from rfl]
 apply wpS_seq
 apply wpS_region
 simp [wpOpsS,go_sem,recoverD,hu,Exit.thenS]
 refine wpS_of_wp ?_;go_wp2_with fail;exact⟨rfl,.returning,by cases c₀;simp_all,.tuple #[],results_none rfl _ _ _,rfl,rfl,rfl⟩
theorem aa8 (be b:Nat) (e0:Value) (w:World) (he:ag w be #[e0] 34) :
  CallsD Tryz.prog 77 #[ptr be] (.panicking [{ v:=.iface 149 (.agg #[.iface 140 (ptr b)]),recovered:=false }]) w fun e u' w'=>
   e = .returned (.tuple #[])∧u' = .panicking [{ v:=.iface 149 (.agg #[.iface 140 (ptr b)]),recovered:=true }]∧ae [be] w w'∧ag w' be #[.iface 140 (ptr b)] 34:=by
 have yA : ∀ w,(Instr.typeAssert (.iface 149 (.agg #[.iface 140 (ptr b)])) 20 149 true).run Tryz.prog w = .ok (.tuple #[.agg #[.iface 140 (ptr b)],.bool true]) w:=fun _=>rfl
 refine callsD_of_wpS Tryz.func77 rfl fun c₀ cs hu=>?_
 rw [show (#[ptr be] ++ Array.replicate (Tryz.f77.ntmps - (#[ptr be] : Array Value).size) undef:Array Value) = #[ptr be,undef,undef,undef,undef,undef,undef,undef,undef,undef,undef,undef,undef,undef,undef,undef,undef] from rfl]
 apply wpS_seq
 apply wpS_region
 simp [wpOpsS,go_sem,recoverD,hu,Exit.thenS]
 refine wpS_of_wp ?_;have he':=he.kept ((ae.refl [] w).alloc (.cells #[.iface 140 (ptr b)] 149)) (by simp);have hx':=ag.new w #[.iface 140 (ptr b)] 149;have hc':ae [be] w (w.alloc (.cells #[.iface 140 (ptr b)] 149)):=(ae.refl _ w).alloc _;obtain⟨w1,hw1⟩ : ∃ x,w.alloc (.cells #[.iface 140 (ptr b)] 149)=x:=⟨_,rfl⟩
 rw [hw1] at he' hx' hc';have g0:=he'.frozen 0;have Xp:=he'.cell 0 _ rfl;have x0:=hx'.cell 0 _ rfl;have fu:ae [be] w1 (w1.setCell ⟨be,0,none⟩ (.iface 140 (ptr b))):=ae.set1 _ _ _ _;have HE:=zh (show ag (w1.setCell ⟨be,0,none⟩ (.iface 140 (ptr b))) be #[.iface 140 (ptr b)] 34 by simpa using he'.set 0 (.iface 140 (ptr b)));have HC:=zh (hc'.then fu);clear he he' hx' hc' fu;go_wp2_with fail;refine⟨rfl,.panicking [{ v:=.iface 149 (.agg #[.iface 140 (ptr b)]),recovered:=true }],rfl,.tuple #[],results_none rfl _ _ _,rfl,rfl,?_⟩;exact⟨HC.out,HE.out⟩
theorem Q4 (tmps:Array Value) (be:Nat) (ev:Value) (w:World) (h4 : tmps[4]?.getD undef=ptr be) (he:ag w be #[ev] 34) :
  (results Tryz.f37 tmps).run Tryz.prog w = .ok ev w:=by
 have e0:=he.cell 0 _ rfl;simp [results,Tryz.results37,h4,go_sem,e0]
theorem GQ (tmps:Array Value) (be:Nat) (ev:Value) (w:World) (R:Ending→World→Prop) (h4 : tmps[4]?.getD undef=ptr be) (he:ag w be #[ev] 34)
  (hR:R (.returned ev) w):Leaves Tryz.prog Tryz.f37 tmps R [{ target:=.fn (.func 77) #[ptr be],args:=#[] }] .returning w:=by
 refine leaves_cons (f:=77) (args:=#[ptr be]) (by simp) (by simp [go_sem]) ?_;refine(aa7 be w).mono ?_;rintro e u' w'' ⟨rfl,rfl,rfl⟩;exact⟨_,Q4 tmps be ev w'' h4 he,hR⟩
theorem DT (tmps:Array Value) (be b:Nat) (ev:Value) (w:World) (R:Ending→World→Prop) (h4 : tmps[4]?.getD undef=ptr be) (he:ag w be #[ev] 34)
  (hR : ∀ w',ae [be] w w'→R (.returned (.iface 140 (ptr b))) w'):Leaves Tryz.prog Tryz.f37 tmps R [{ target:=.fn (.func 77) #[ptr be],args:=#[] }] (.panicking [{ v:=.iface 149 (.agg #[.iface 140 (ptr b)]),recovered:=false }]) w:=by
 refine leaves_cons (f:=77) (args:=#[ptr be]) (by simp) (by simp [go_sem]) ?_;refine(aa8 be b ev w he).mono ?_;rintro e u' w'' ⟨rfl,rfl,hc,he'⟩;exact⟨_,Q4 tmps be _ w'' h4 he',hR w'' hc⟩
end Go.Proofs.YtechofppmnnomaaGreatDoor
namespace Go.Mq.Check
open Go Go.RowKit Go.Mq Go.Mq.Tree Go.Mq.Sym
theorem Q5 {α:Type} {l:List α} {k:Nat} {x : α} (h : l[k]?=some x) : l.take (k + 1)=l.take k ++ [x]:=by
 rw [List.take_add_one,h];rfl
theorem drop_cons {α:Type} {l:List α} {k:Nat} {x : α} (h : l[k]?=some x) : l.drop k=x :: l.drop (k + 1):=by
 obtain⟨hk,he⟩:=List.getElem?_eq_some_iff.1 h;rw [← he,← List.drop_eq_getElem_cons hk]
theorem Q6 {w:World} {F:Nat→Prop} {a:Option Addr} {c:Nat} {l:List (List UInt8)} (h:Row w F a (l.map str)) (hc : l.length≤c) {k:Nat} (hk : k≤l.length):eF w F (l.take k) (.slice a k c):=by
 refine⟨a,c,by rw [List.length_take,Nat.min_eq_left hk],by rw [List.length_take];omega,fun h0=>?_,fun h0 p hp=>h.own (by simp at h0 ⊢;omega) p hp⟩;obtain⟨b,o,ha,hcell⟩:=h.at_ (by simp at h0 ⊢;omega);refine⟨b,o,ha,fun i v hv=>hcell i v ?_⟩;rw [List.getElem?_map] at hv ⊢;rw [List.getElem?_take] at hv;split at hv
 ·exact hv
 ·cases hv
theorem KX {w:World} {F:Nat→Prop} : ∀ {l:List aX} {cs:List Value} {k:Nat} {x:aX},kG w F l cs→l[k]?=some x → ∃ cs1 c cs',cs=cs1 ++ (c ++ cs')∧cs1.length=k * 6∧pR w F x c
 | [],_,_,_,_,hk=>by simp at hk
 | y :: r,_,0,x,h,hk=>by
  obtain⟨c1,c2,rfl,h1,h2⟩:=h;simp at hk;subst hk
  exact⟨[],c1,c2,rfl,rfl,h1⟩
 | y :: r,_,k + 1,x,h,hk=>by
  obtain⟨c1,c2,rfl,⟨_,_,_,rfl,_⟩,h2⟩:=h;obtain⟨cs1,c,cs',rfl,hl,hp⟩:=KX h2 (by simpa using hk);exact⟨_ ++ cs1,c,cs',by rw [List.append_assoc],by simp [hl];omega,hp⟩
def DU (m:Mod) (seen:List UInt8→Option (List Sy)):dX:=((eu [] (m.vars.map (fun g=>(g.name,g.pos)) ++ m.procs.map fun x=>(x.name,x.pos))).or (dV m seen m.procs)).or (Check.aQ ⟨m.imports,seen,[],m.vars,m.procs⟩ m.body)
theorem KY {m:Mod} {seen:List UInt8→Option (List Sy)} {e:Nat} (h : fU m.name seen [] m.imports=some e) : check m seen = .plain e:=by rw [check,h]
theorem aa9 {m:Mod} {seen:List UInt8→Option (List Sy)} (h : fU m.name seen [] m.imports=none) : check m seen = .of (DU m seen):=by rw [check,h];rfl
end Go.Mq.Check
namespace Go.Proofs.YtechofppmnnomaaGreatDoor
open Go Go.RowKit Go.Mq Go.Mq.Tree Go.Mq.Sym Go.Mq.Check
set_option maxRecDepth 100000
set_option maxHeartbeats 8000000
theorem Q7 (m:Mod) (hm:fI m) (seen:List UInt8→Option (List Sy)) (F:Nat→Prop) (v vm:Value) (w:World) (hF : ∀ x,F x→x < w.heap.size) (hmod:gY w F m v) (hs:rJ w F seen vm) :
  Calls Tryz.prog 37 #[v,vm] w (aa6 w (check m seen)):=by
 have mO : ∀ (fn:Fn) (first cap:Array Value) (w:World),(Instr.makeFunc fn first cap).run Tryz.prog w = .ok (.func fn first cap) w:=fun _ _ _ _=>rfl
 have hmm:=@run_makeMap Tryz.prog;obtain⟨ov,rfl⟩ : ∃ ov,vm = .map ov:=by
  rcases hs with⟨h,_⟩|⟨b,_,h,_⟩
  ·exact⟨_,h⟩
  ·exact⟨_,h⟩
 obtain⟨vi,vv,vp,vb,rfl,⟨ai,ci,rfl,hi1,hi2⟩,⟨av,cv,rfl,hv1,hv2⟩,⟨ap,cp,uO,rfl,hp1,hp2,hp3⟩,⟨ab,cb,DV,rfl,hb1,hb2,hb3⟩⟩:=hmod;obtain⟨wm,GR⟩ : ∃ x,w.alloc (.cells #[str m.name,.slice ai m.imports.length ci,.slice av m.vars.length cv,.slice ap m.procs.length cp,.slice ab m.body.len cb] 32)=x:=⟨_,rfl⟩
 have hmb:=ag.new w #[str m.name,.slice ai m.imports.length ci,.slice av m.vars.length cv,.slice ap m.procs.length cp,.slice ab m.body.len cb] 32;have hcm:ae [] w wm:=by rw [← GR];exact(ae.refl _ _).alloc _
 have hsm : wm.heap.size=w.heap.size + 1:=by rw [← GR];simp
 rw [GR] at hmb;obtain⟨w0,hw0⟩ : ∃ x,wm.alloc (.cells #[.nilIface] 34)=x:=⟨_,rfl⟩
 have KZ:=ag.new wm #[.nilIface] 34;have hc0:ae [] wm w0:=by rw [← hw0];exact(ae.refl _ _).alloc _
 have hs0 : w0.heap.size=w.heap.size + 2:=by rw [← hw0];simp [hsm]
 rw [hw0] at KZ;have hcw:=hcm.then hc0
 have mX:=zh (hmb.kept hc0 (by simp));have kZ:=zh KZ;have aC:=zh hcw;have GU:=zh (hi2.kept hcw (by simp));have zu:=zh (hv2.kept hcw (by simp));have oO:=zh (hp2.kept hcw (by simp));have tH:=zh (hp3.kept hcw (by simp));have aB:=zh (show fT w0 F m.body (.slice ab m.body.len cb) from fT.kept hcw (by simp) ⟨ab,cb,DV,rfl,hb1,hb2,hb3⟩);have K5:=zh (hs.kept hcw (by simp));have HM:=zh hm;have QR:=zh hF;have HS:=zh (And.intro hsm hs0);obtain⟨tgt,fw⟩ : ∃ t,t=check m seen:=⟨_,rfl⟩
 rw [← fw];obtain⟨it,hit⟩ : ∃ x,x=fU m.name seen [] m.imports:=⟨_,rfl⟩
 have eQ:=zh fw;have HIT:=zh hit;have him:=hm.imports;have hmv:=hm.vars;have hmp:=hm.procs;clear hs hm hF fw hit hmb KZ hcm hc0 hcw hi2 hv2 hp2 hp3 hb2 hb3 hsm hs0;have m0:=mX.out.cell 0 _ rfl;have m1:=mX.out.cell 1 _ rfl
 go_enter_defers Tryz.func37,Tryz.ntmps37
 go_wp2_with fail;clear GR hw0 m0 m1
 go_loopw [5,6,7,8,24] (fun _ _ _ _ i wr=>∃ k:Nat,i = .int .i64 k∧k≤m.imports.length∧fU m.name seen (m.imports.take k) (m.imports.drop k)=it∧ae [] w0 wr) (fun _ _ _ _ i _=>m.imports.length - (intOf i).toNat)
 case atStart=>exact⟨0,rfl,Nat.zero_le _,by rw [HIT.out] <;> rfl,ae.refl _ _⟩
 case round=>
  obtain⟨k,rfl,hk,hin,hc⟩:=hrel;have yR:=zh hin;have HC:=zh hc;clear hin hc;by_cases hlt : k < m.imports.length
  ·have m0:=(mX.out.kept HC.out (by simp)).cell 0 _ rfl;have m1:=(mX.out.kept HC.out (by simp)).cell 1 _ rfl
   obtain⟨n,hn⟩ : ∃ n,m.imports[k]?=some n:=⟨m.imports[k],List.getElem?_eq_getElem hlt⟩
   obtain⟨b,o,rfl,d0⟩:=xe (GU.out.kept HC.out (by simp)) hn;have HN:=zh hn;have HIS:=zh (show fU m.name seen (m.imports.take k) (n :: m.imports.drop (k + 1))=it by rw [← drop_cons hn];exact yR.out);have fO:=zh (F6 (m.imports.take k) (by rw [List.length_take];omega) n F _ wr (Q6 (GU.out.kept HC.out (by simp)) hi1 (by omega)));clear hn;cases hq : (n == m.name) with
   | true=>
    have HT:=zh (show tgt = .plain 10 by
     rw [eQ.out];refine KY ?_;rw [← HIT.out,← HIS.out,fU,if_pos (.inl (by simpa using hq))])
    have e0:=(kZ.out.kept HC.out (by simp)).cell 0 _ rfl;have f0:=(kZ.out.kept HC.out (by simp)).frozen 0;obtain⟨wE,bV⟩ : ∃ x,wr.setCell ⟨wm.heap.size,0,none⟩ (.iface 46 (.int .i64 10))=x:=⟨_,rfl⟩
    have fJ:=zh (show ae [wm.heap.size] wr wE by rw [← bV];exact ae.set1 _ _ _ _);have gZ:=zh (show ag wE wm.heap.size #[.iface 46 (.int .i64 10)] 34 by rw [← bV];simpa using (kZ.out.kept HC.out (by simp)).set 0 (.iface 46 (.int .i64 10)));go_wp2_with fail;have hss:=HS.out;exact GQ _ _ _ _ _ rfl gZ.out (by rw [HT.out];exact⟨(aC.out.then HC.out).trans fJ.out (fun x hx=>.inr (by simp at hx;omega)),rfl⟩)
   | false=>
    have zx : ¬ n=m.name:=by simpa using hq
    cases rF : decide (n∈m.imports.take k) with
    | true=>
     rw [rF] at fO;have HT:=zh (show tgt = .plain 10 by
      rw [eQ.out];refine KY ?_;rw [← HIT.out,← HIS.out,fU,if_pos (.inr (by simpa using rF))])
     clear rF zx;have e0:=(kZ.out.kept HC.out (by simp)).cell 0 _ rfl;have f0:=(kZ.out.kept HC.out (by simp)).frozen 0;obtain⟨wE,bV⟩ : ∃ x,wr.setCell ⟨wm.heap.size,0,none⟩ (.iface 46 (.int .i64 10))=x:=⟨_,rfl⟩
     have fJ:=zh (show ae [wm.heap.size] wr wE by rw [← bV];exact ae.set1 _ _ _ _);have gZ:=zh (show ag wE wm.heap.size #[.iface 46 (.int .i64 10)] 34 by rw [← bV];simpa using (kZ.out.kept HC.out (by simp)).set 0 (.iface 46 (.int .i64 10)));go_wp2_with fail;refine fO.out.mono ?_;rintro _ _ ⟨rfl,hw⟩;have hw:=hw.symm;subst hw;go_wp2_with fail;have hss:=HS.out;exact GQ _ _ _ _ _ rfl gZ.out (by rw [HT.out];exact⟨(aC.out.then HC.out).trans fJ.out (fun x hx=>.inr (by simp at hx;omega)),rfl⟩)
    | false=>
     rw [rF] at fO;have hni : ¬ (n=m.name∨n∈m.imports.take k):=by simp only [not_or];exact⟨zx,by simpa using rF⟩
     obtain⟨u,_,hlk,_,_⟩:=JW (K5.out.kept HC.out (by simp)) n;have C8:=hlk wr (ae.refl _ _);clear hlk rF zx;cases hsn : (seen n).isSome with
     | false=>
      rw [hsn] at C8;have HT:=zh (show tgt = .plain 8 by
       rw [eQ.out];refine KY ?_;rw [← HIT.out,← HIS.out,fU,if_neg hni,if_pos (by simpa using hsn)])
      clear hni hsn;have e0:=(kZ.out.kept HC.out (by simp)).cell 0 _ rfl;have f0:=(kZ.out.kept HC.out (by simp)).frozen 0;obtain⟨wE,bV⟩ : ∃ x,wr.setCell ⟨wm.heap.size,0,none⟩ (.iface 46 (.int .i64 8))=x:=⟨_,rfl⟩
      have fJ:=zh (show ae [wm.heap.size] wr wE by rw [← bV];exact ae.set1 _ _ _ _);have gZ:=zh (show ag wE wm.heap.size #[.iface 46 (.int .i64 8)] 34 by rw [← bV];simpa using (kZ.out.kept HC.out (by simp)).set 0 (.iface 46 (.int .i64 8)));go_wp2_with fail;refine fO.out.mono ?_;rintro _ _ ⟨rfl,hw⟩;have hw:=hw.symm;subst hw;go_wp2_with fail;have hss:=HS.out;exact GQ _ _ _ _ _ rfl gZ.out (by rw [HT.out];exact⟨(aC.out.then HC.out).trans fJ.out (fun x hx=>.inr (by simp at hx;omega)),rfl⟩)
     | true=>
      rw [hsn] at C8;have eZ:=zh (show fU m.name seen (m.imports.take (k + 1)) (m.imports.drop (k + 1))=it by
       rw [Q5 HN.out,← HIS.out]
       conv=>rhs;rw [fU,if_neg hni,if_neg (by simp;intro h;rw [h] at hsn;cases hsn)])
      clear hni hsn;go_wp2_with fail;refine fO.out.mono ?_;rintro _ _ ⟨rfl,hw⟩;have hw:=hw.symm;subst hw;go_wp2_with fail;exact⟨⟨k + 1,by go_num,by omega,eZ.out,HC.out⟩,by simp [intOf];omega⟩
  ·have zy:=zh (show tgt = .of (DU m seen) by
    rw [eQ.out];refine aa9 ?_;rw [← HIT.out,← yR.out,List.drop_eq_nil_of_le (by omega)];rfl)
   obtain⟨wL,zz⟩ : ∃ x,x=wr:=⟨_,rfl⟩
   subst zz;obtain⟨wN,K6⟩ : ∃ x,wL.alloc (.map #[] 0)=x:=⟨_,rfl⟩
   have zA:=zh (show ae [] w0 wN from HC.out.then (by rw [← K6];exact(ae.refl [] wL).alloc _));have HAD:=zh (show jW wN wL.heap.size [] by rw [← K6];exact jW.made wL);have hcs:=HC.out.size;have m2:=(mX.out.kept zA.out (by simp)).cell 2 _ rfl;clear yR HIT eQ HC;go_wp2_with fail;clear K6 m2 hk hlt
   go_loopw [11,56] (fun _ i wr=>∃ (k:Nat) (had:List (List UInt8)),i = .int .i64 k∧k≤m.vars.length∧ae [] w0 wr∧jW wr wL.heap.size had∧eu had ((m.vars.drop k).map (fun g=>(g.name,g.pos)) ++ m.procs.map fun x=>(x.name,x.pos))=eu [] (m.vars.map (fun g=>(g.name,g.pos)) ++ m.procs.map fun x=>(x.name,x.pos))) (fun _ i _=>m.vars.length - (intOf i).toNat)
   case atStart=>exact⟨0,[],rfl,Nat.zero_le _,zA.out,HAD.out,rfl⟩
   case round=>
    obtain⟨k,had,rfl,hk,hc,xz,hon⟩:=hrel;have HC:=zh hc;have HH:=zh xz;have iL:=zh hon;clear hc xz hon;by_cases hlt : k < m.vars.length
    ·obtain⟨g,hg⟩ : ∃ g,m.vars[k]?=some g:=⟨m.vars[k],List.getElem?_eq_getElem hlt⟩
     obtain⟨b,o,rfl,d0,d1,d2,d3⟩:=CY (zu.out.kept HC.out (by simp)) hg;have rZ:=zh (show eu had ((g.name,g.pos) :: ((m.vars.drop (k + 1)).map (fun g=>(g.name,g.pos)) ++ m.procs.map fun x=>(x.name,x.pos)))=eu [] (m.vars.map (fun g=>(g.name,g.pos)) ++ m.procs.map fun x=>(x.name,x.pos)) by
      rw [← iL.out,drop_cons hg];rfl)
     have hz:=ag.new wr #[str [],.int .i64 0,.int .i64 0,.bool false] 68;obtain⟨wA,az⟩ : ∃ x,wr.alloc (.cells #[str [],.int .i64 0,.int .i64 0,.bool false] 68)=x:=⟨_,rfl⟩
     rw [az] at hz;have hcA:ae [] wr wA:=by rw [← az];exact(ae.refl _ _).alloc _
     obtain⟨wF,hwF,aV,aG⟩:=Py (str g.name) (.int .i64 g.pos) (.int .i64 g.len) (.bool g.seen) hz;have hcw:ae [] wr wF:=hcA.trans aV (fun x hx=>.inr (by simp at hx;omega));have g0:=hcA.aH d0 (by simp);have g1:=hcA.aH d1 (by simp);have g2:=hcA.aH d2 (by simp);have g3:=hcA.aH d3 (by simp);have z0:=hz.cell 0 _ rfl;have z1:=hz.cell 1 _ rfl;have z2:=hz.cell 2 _ rfl;have z3:=hz.cell 3 _ rfl;have y0:=hz.frozen 0;have y1:=hz.frozen 1;have y2:=hz.frozen 2;have y3:=hz.frozen 3;have e0:=aG.cell 0 _ rfl;have e1:=aG.cell 1 _ rfl;have dM:=zh (HC.out.then hcw);have hone:=JU had g.name g.pos wL.heap.size wF (HH.out.kept hcw (by simp));clear hg hz hcA aV aG hcw;by_cases hgi : g.name∈had
     ·simp only [if_pos hgi] at hone
      have r9:=zh hone;have HT:=zh (show tgt = .at_ 9 g.pos by
       rw [zy.out,DU,← rZ.out,eu,if_pos hgi];rfl)
      clear hone hgi;go_wp2_with fail;refine r9.out.mono ?_;rintro _ w9 ⟨bN,b9,rfl,bP,bg⟩;have DW:=dM.out.size;have hss:=HS.out;have dm:=zh (show ae [] w w9 from(aC.out.then dM.out).trans bN (fun x hx=>.inr (by simp at hx <;> omega)));have vg:=zh (show ag w9 wm.heap.size #[.nilIface] 34 from(kZ.out.kept dM.out (by simp)).kept bN (by simp <;> omega));have dN:=zh bg;have dF:=zh bP;clear bN bg bP hss;go_wp2_with fail;refine DT _ _ _ _ _ _ rfl vg.out (fun w' hc=>?_);have hss:=HS.out;have bP:=dF.out;rw [HT.out];exact⟨dm.out.trans hc (fun x hx=>.inr (by simp at hx <;> omega)),b9,rfl,by omega,dN.out.kept hc (by simp <;> omega)⟩
     ·simp only [if_neg hgi] at hone
      have r9:=zh hone;have eZ:=zh (show eu (g.name :: had) ((m.vars.drop (k + 1)).map (fun g=>(g.name,g.pos)) ++ m.procs.map fun x=>(x.name,x.pos))=eu [] (m.vars.map (fun g=>(g.name,g.pos)) ++ m.procs.map fun x=>(x.name,x.pos)) by
       rw [← rZ.out]
       conv=>rhs;rw [eu,if_neg hgi])
      clear hone hgi;go_wp2_with fail;refine r9.out.mono ?_;rintro _ w4 ⟨rfl,hc4,xA⟩;have cz:=zh (show ae [] w0 w4 from dM.out.trans hc4 (fun x hx=>.inr (by simp at hx;omega)));have DX:=zh xA;clear hc4 xA;go_wp2_with fail;exact⟨⟨k + 1,g.name :: had,by go_num,by omega,cz.out,DX.out,eZ.out⟩,by simp [intOf];omega⟩
    ·have K7:=zh (show eu had (m.procs.map fun x=>(x.name,x.pos))=eu [] (m.vars.map (fun g=>(g.name,g.pos)) ++ m.procs.map fun x=>(x.name,x.pos)) by
      rw [← iL.out,List.drop_eq_nil_of_le (by omega)];rfl)
     obtain⟨wP,hwP⟩ : ∃ x,x=wr:=⟨_,rfl⟩
     subst hwP;have m3:=(mX.out.kept HC.out (by simp)).cell 3 _ rfl;have wy:=zh HC.out;have HHP:=zh HH.out;clear iL HC HH;go_wp2_with fail;clear m3 hk hlt
     go_loopw [13,70] (fun _ i wr=>∃ (k:Nat) (had:List (List UInt8)),i = .int .i64 k∧k≤m.procs.length∧ae [] w0 wr∧jW wr wL.heap.size had∧eu had ((m.procs.drop k).map fun x=>(x.name,x.pos))=eu [] (m.vars.map (fun g=>(g.name,g.pos)) ++ m.procs.map fun x=>(x.name,x.pos))) (fun _ i _=>m.procs.length - (intOf i).toNat)
     case atStart=>exact⟨0,_,rfl,Nat.zero_le _,wy.out,HHP.out,K7.out⟩
     case round=>
      obtain⟨k,had,rfl,hk,hc,xz,hon⟩:=hrel;have HC:=zh hc;have HH:=zh xz;have iL:=zh hon;clear hc xz hon;by_cases hlt : k < m.procs.length
      ·obtain⟨x,hx⟩ : ∃ x,m.procs[k]?=some x:=⟨m.procs[k],List.getElem?_eq_getElem hlt⟩
       obtain⟨cs1,d,cs',hpe,hl1,_,_,_,rfl,⟨p1,q1,rfl,hq1,hr1⟩,⟨p2,q2,rfl,hq2,hr2⟩,⟨p3,q3,Q8,rfl,hq3,hr3,hs3⟩⟩:=KX tH.out hx;have hrw:=oO.out.kept HC.out (by simp);rw [hpe] at hrw;obtain⟨b,o,rfl,d0,d1,d2,d3,d4,d5⟩:=yO (cs':=cs') hrw hl1;clear hrw hpe;clear hl1 hr1 hr2 hr3 hs3;have hz:=ag.new wr #[str [],.int .i64 0,.bool false,ah,ah,ah] 72;obtain⟨wA,az⟩ : ∃ x,wr.alloc (.cells #[str [],.int .i64 0,.bool false,ah,ah,ah] 72)=x:=⟨_,rfl⟩
       rw [az] at hz;have hcA:ae [] wr wA:=by rw [← az];exact(ae.refl _ _).alloc _
       obtain⟨wF,hwF,aV,aG⟩:=FZ (str x.name) (.int .i64 x.pos) (.bool x.seen) (.slice p1 x.params.length q1) (.slice p2 x.vars.length q2) (.slice p3 x.body.len q3) hz;have hcw:ae [] wr wF:=hcA.trans aV (fun x hx=>.inr (by simp at hx;omega));have g0:=hcA.aH d0 (by simp);have g1:=hcA.aH d1 (by simp);have g2:=hcA.aH d2 (by simp);have g3:=hcA.aH d3 (by simp);have g4:=hcA.aH d4 (by simp);have g5:=hcA.aH d5 (by simp);have z0:=hz.cell 0 _ rfl;have z1:=hz.cell 1 _ rfl;have z2:=hz.cell 2 _ rfl;have z3:=hz.cell 3 _ rfl;have z4:=hz.cell 4 _ rfl;have z5:=hz.cell 5 _ rfl;have y0:=hz.frozen 0;have y1:=hz.frozen 1;have y2:=hz.frozen 2;have y3:=hz.frozen 3;have y4:=hz.frozen 4;have y5:=hz.frozen 5;have e0:=aG.cell 0 _ rfl;have e1:=aG.cell 1 _ rfl;have dM:=zh (HC.out.then hcw);have qM:=zh aG;have rZ:=zh (show eu had ((x.name,x.pos) :: (m.procs.drop (k + 1)).map fun x=>(x.name,x.pos))=eu [] (m.vars.map (fun g=>(g.name,g.pos)) ++ m.procs.map fun x=>(x.name,x.pos)) by
        rw [← iL.out,drop_cons hx];rfl)
       have hone:=JU had x.name x.pos wL.heap.size wF (HH.out.kept hcw (by simp));clear hx hz hcA aV aG hcw;by_cases hgi : x.name∈had
       ·simp only [if_pos hgi] at hone
        have r9:=zh hone;have HT:=zh (show tgt = .at_ 9 x.pos by
         rw [zy.out,DU,← rZ.out,eu,if_pos hgi];rfl)
        clear hone hgi;go_wp2_with fail;refine r9.out.mono ?_;rintro _ w9 ⟨bN,b9,rfl,bP,bg⟩;have DW:=dM.out.size;have hss:=HS.out;have dm:=zh (show ae [] w w9 from(aC.out.then dM.out).trans bN (fun x hx=>.inr (by simp at hx <;> omega)));have vg:=zh (show ag w9 wm.heap.size #[.nilIface] 34 from(kZ.out.kept dM.out (by simp)).kept bN (by simp <;> omega));have dN:=zh bg;have dF:=zh bP;clear bN bg bP hss;go_wp2_with fail;refine DT _ _ _ _ _ _ rfl vg.out (fun w' hc=>?_);have hss:=HS.out;have bP:=dF.out;rw [HT.out];exact⟨dm.out.trans hc (fun x hx=>.inr (by simp at hx <;> omega)),b9,rfl,by omega,dN.out.kept hc (by simp <;> omega)⟩
       ·simp only [if_neg hgi] at hone
        have r9:=zh hone;have eZ:=zh (show eu (x.name :: had) ((m.procs.drop (k + 1)).map fun x=>(x.name,x.pos))=eu [] (m.vars.map (fun g=>(g.name,g.pos)) ++ m.procs.map fun x=>(x.name,x.pos)) by
         rw [← rZ.out]
         conv=>rhs;rw [eu,if_neg hgi])
        clear hone hgi;go_wp2_with fail;refine r9.out.mono ?_;rintro _ w4 ⟨rfl,hc4,xA⟩;have cz:=zh (show ae [] w0 w4 from dM.out.trans hc4 (fun x hx=>.inr (by simp at hx;omega)));have DX:=zh xA;clear hc4 xA;go_wp2_with fail;exact⟨⟨k + 1,x.name :: had,by go_num,by omega,cz.out,DX.out,eZ.out⟩,by simp [intOf];omega⟩
      ·have zy:=zh (show tgt = .of ((dV m seen m.procs).or (Check.aQ ⟨m.imports,seen,[],m.vars,m.procs⟩ m.body)) by
        have h0 : eu [] (m.vars.map (fun g=>(g.name,g.pos)) ++ m.procs.map fun x=>(x.name,x.pos))=none:=by
         rw [← iL.out,List.drop_eq_nil_of_le (by omega)];rfl
        rw [zy.out,DU,h0];rfl)
       obtain⟨wQ,hwQ⟩ : ∃ x,x=wr:=⟨_,rfl⟩
       subst hwQ;have m3:=(mX.out.kept HC.out (by simp)).cell 3 _ rfl;have wy:=zh HC.out;clear iL HC HH;go_wp2_with fail;clear m3 hk hlt
       go_loopw [15,16,17,19,84] (fun _ _ _ _ i wr=>∃ k:Nat,i = .int .i64 k∧k≤m.procs.length∧ae [] w0 wr∧Check.dV m seen (m.procs.drop k)=Check.dV m seen m.procs) (fun _ _ _ _ i _=>m.procs.length - (intOf i).toNat)
       case atStart=>exact⟨0,rfl,Nat.zero_le _,wy.out,rfl⟩
       case round=>
        obtain⟨k,rfl,hk,hc,hon⟩:=hrel;have HC:=zh hc;have iL:=zh hon;clear hc hon;by_cases hlt : k < m.procs.length
        ·obtain⟨x,hx⟩ : ∃ x,m.procs[k]?=some x:=⟨m.procs[k],List.getElem?_eq_getElem hlt⟩
         obtain⟨cs1,d,cs',hpe,hl1,_,_,_,rfl,⟨p1,q1,rfl,hq1,hr1⟩,⟨p2,q2,rfl,hq2,hr2⟩,⟨p3,q3,Q8,rfl,hq3,hr3,hs3⟩⟩:=KX tH.out hx;have hrw:=oO.out.kept HC.out (by simp);rw [hpe] at hrw;obtain⟨b,o,rfl,d0,d1,d2,d3,d4,d5⟩:=yO (cs':=cs') hrw hl1;clear hrw hpe;have HR1:=zh hr1;have HR2:=zh hr2;have HR3:=zh hr3;have mY:=zh hs3;clear hl1 hr1 hr2 hr3 hs3;have hz:=ag.new wr #[str [],.int .i64 0,.bool false,ah,ah,ah] 72;obtain⟨wA,az⟩ : ∃ x,wr.alloc (.cells #[str [],.int .i64 0,.bool false,ah,ah,ah] 72)=x:=⟨_,rfl⟩
         rw [az] at hz;have hcA:ae [] wr wA:=by rw [← az];exact(ae.refl _ _).alloc _
         obtain⟨wF,hwF,aV,aG⟩:=FZ (str x.name) (.int .i64 x.pos) (.bool x.seen) (.slice p1 x.params.length q1) (.slice p2 x.vars.length q2) (.slice p3 x.body.len q3) hz;have hcw:ae [] wr wF:=hcA.trans aV (fun x hx=>.inr (by simp at hx;omega));have g0:=hcA.aH d0 (by simp);have g1:=hcA.aH d1 (by simp);have g2:=hcA.aH d2 (by simp);have g3:=hcA.aH d3 (by simp);have g4:=hcA.aH d4 (by simp);have g5:=hcA.aH d5 (by simp);have z0:=hz.cell 0 _ rfl;have z1:=hz.cell 1 _ rfl;have z2:=hz.cell 2 _ rfl;have z3:=hz.cell 3 _ rfl;have z4:=hz.cell 4 _ rfl;have z5:=hz.cell 5 _ rfl;have y0:=hz.frozen 0;have y1:=hz.frozen 1;have y2:=hz.frozen 2;have y3:=hz.frozen 3;have y4:=hz.frozen 4;have y5:=hz.frozen 5;have e0:=aG.cell 0 _ rfl;have e1:=aG.cell 1 _ rfl;have dM:=zh (HC.out.then hcw);have qM:=zh aG;have K8:=zh (show (Check.lG m seen x).or (Check.dV m seen (m.procs.drop (k + 1)))=Check.dV m seen m.procs by
          rw [← iL.out,drop_cons hx];rfl)
         have hxm : x∈m.procs:=List.mem_of_getElem? hx;have GV:=zh (HM.out.bodies x hxm);obtain⟨hxp,hxv⟩:=HM.out.params x hxm;clear hx hxm hz hcA aV aG hcw;go_wp2_with fail;clear az hwF d0 d1 d2 d3 d4 d5 g0 g1 g2 g3 g4 g5 z0 z1 z2 z3 z4 z5 y0 y1 y2 y3 y4 y5 e0 e1;obtain⟨wR,hwR⟩ : ∃ x,x=wr:=⟨_,rfl⟩
         subst hwR;obtain⟨wD,aI⟩ : ∃ x,x=wF.drew:=⟨_,rfl⟩
         have dL:=zh (show ae [] w0 wD by rw [aI];exact dM.out.drew);have oG:=zh (show ag wD wR.heap.size #[str x.name,.int .i64 x.pos,.bool x.seen,.slice p1 x.params.length q1,.slice p2 x.vars.length q2,.slice p3 x.body.len q3] 72 by rw [aI];exact qM.out);have j6:=zh (mX.out.kept dL.out (by simp));have m0:=j6.out.cell 0 _ rfl;have m1:=j6.out.cell 1 _ rfl;have m2:=j6.out.cell 2 _ rfl;have m3:=j6.out.cell 3 _ rfl;have m4:=j6.out.cell 4 _ rfl;have b3:=oG.out.cell 3 _ rfl;have b4:=oG.out.cell 4 _ rfl;have hk:=ag.new wD #[.slice p1 x.params.length q1,.slice p2 x.vars.length q2] 27;obtain⟨wK,xB⟩ : ∃ y,wD.alloc (.cells #[.slice p1 x.params.length q1,.slice p2 x.vars.length q2] 27)=y:=⟨_,rfl⟩
         rw [xB] at hk;have hcK:ae [] wD wK:=by rw [← xB];exact(ae.refl _ _).alloc _
         have vw:=zh (dL.out.then hcK);have HDK:=zh hcK;have Q9 : wK.heap.size=wD.heap.size + 1:=by rw [← xB];simp
         have hcc:=aa1 x.params x.vars (by omega) (by omega) wD.heap.size q1 q2 p1 p2 F wK (hk.cell 0 _ rfl) (hk.cell 1 _ rfl) ⟨p1,q1,rfl,hq1,HR1.out.kept vw.out (by simp)⟩ ⟨p2,q2,rfl,hq2,HR2.out.kept vw.out (by simp)⟩;obtain⟨L,hL⟩ : ∃ L,L=x.params ++ x.vars:=⟨_,rfl⟩
         have hLl:L.length≤20:=by rw [hL,List.length_append];omega
         rw [← hL] at hcc;have gK:=zh hcc;have jG:=zh hL;clear hcc hL;have CQ:=zh Q9;have HLR:=zh (show wR.heap.size < wD.heap.size from oG.out.lt);have Ra:=zh (show w.heap.size < wD.heap.size from j6.out.lt);clear hk hcK Q9;refine kT [] rfl (by kernel_rfl) ?_;rw [← aI];clear aI;have hS:ae [] wD wD:=ae.refl _ _
         repeat ((with_reducible refine gX ?_);(first|refine aM ?_|refine sK ?_|refine sM fun _ _=>?_|refine sL fun _ _=>?_|refine sE fun _ _=>?_);go_wp2_with fail)
         refine And.intro HDK.out ?_;have hS1:=HDK.out
         repeat ((with_reducible refine gX ?_);(first|refine aM ?_|refine sK ?_|refine sM fun _ _=>?_|refine sL fun _ _=>?_|refine sE fun _ _=>?_);go_wp2_with fail)
         refine gK.out.mono ?_;rintro _ wC ⟨lv,rfl,hnl,hcC⟩;obtain⟨la,lc,rfl,hlc,hlr⟩:=hnl;have hS2:ae [] wD wC:=HDK.out.then hcC
         have abg:=zh (vw.out.then hcC);have Rb:=hcC.size;have aib:=zh hlr;obtain⟨wB,fA⟩ : ∃ y,wC.alloc (.cells #[str m.name,.slice ai m.imports.length ci,.slice av m.vars.length cv,(.slice (some ⟨b,o,none⟩) m.procs.length cp),.slice ab m.body.len cb,.map ov,.slice la L.length lc] 157)=y:=⟨_,rfl⟩
         have hck:=ag.new wC #[str m.name,.slice ai m.imports.length ci,.slice av m.vars.length cv,(.slice (some ⟨b,o,none⟩) m.procs.length cp),.slice ab m.body.len cb,.map ov,.slice la L.length lc] 157;rw [fA] at hck;have hcB:ae [] wC wB:=by rw [← fA];exact(ae.refl _ _).alloc _
         have hsB : wB.heap.size=wC.heap.size + 1:=by rw [← fA];simp
         have abh:=zh (show ae [] wD wB from hS2.then hcB);obtain⟨wM,zB⟩ : ∃ y,wB.alloc (.map #[] 0)=y:=⟨_,rfl⟩
         have vz:ae [] wB wM:=by rw [← zB];exact(ae.refl _ _).alloc _
         have HAD:=zh (show jW wM wB.heap.size [] by rw [← zB];exact jW.made wB);have HCM:=zh ((abg.out.then hcB).then vz);have Rc:=zh (hck.kept vz (by simp));have Re:=zh ((hlr.kept hcB (by simp)).kept vz (by simp));have K9:=zh (((oG.out.kept hS2 (by simp)).kept hcB (by simp)).kept vz (by simp));have c6:=Rc.out.cell 6 _ rfl;have hsz : w0.heap.size≤wK.heap.size:=vw.out.size;have jM:=zh (And.intro Rb (And.intro hsB hsz));clear hcC hlr hck hcB hsB vz Rb hsz;go_wp2_with fail;refine And.intro hS2 ?_
         repeat ((with_reducible refine gX ?_);(first|refine aM ?_|refine sK ?_|refine sM fun _ _=>?_|refine sL fun _ _=>?_|refine sE fun _ _=>?_);go_wp2_with fail)
         refine And.intro abh.out ?_
         repeat ((with_reducible refine gX ?_);(first|refine aM ?_|refine sK ?_|refine sM fun _ _=>?_|refine sL fun _ _=>?_|refine sE fun _ _=>?_);go_wp2_with fail)
         clear hS hS1 hS2 m0 m1 m2 m3 m4 b3 b4;go_wp2_with fail;clear xB fA zB c6
         go_loopw [19,104] (fun _ i wr=>∃ (j:Nat) (had:List (List UInt8)),i = .int .i64 j∧j≤L.length∧ae [wB.heap.size] wM wr∧jW wr wB.heap.size had∧eu had ((L.drop j).map fun n=>(n,x.pos))=eu [] (L.map fun n=>(n,x.pos))) (fun _ i _=>L.length - (intOf i).toNat)
         case atStart=>exact⟨0,[],rfl,Nat.zero_le _,ae.refl _ _,HAD.out,rfl⟩
         case round=>
          obtain⟨j,had,rfl,hj,hc,xz,hon⟩:=hrel;have hsz:=jM.out;have cO:=zh (show ae [] w0 wr from HCM.out.trans hc (fun x hx=>.inr (by simp at hx;omega)));have HH:=zh xz;have Rf:=zh hon;have HC:=zh hc;have hbp:=K9.out.kept hc (by have:=HLR.out;have:=CQ.out;simp;omega);have q1:=hbp.cell 1 _ rfl;have q5:=hbp.cell 5 _ rfl;clear hc xz hon hbp;by_cases hlj : j < L.length
          ·obtain⟨n,hn⟩ : ∃ n,L[j]?=some n:=⟨L[j],List.getElem?_eq_getElem hlj⟩
           obtain⟨b8,o8,rfl,d0⟩:=xe (Re.out.kept HC.out (fun y hy hn=>by simp at hy;have:=hn.2;omega)) hn;have rZ:=zh (show eu had ((n,x.pos) :: (L.drop (j + 1)).map fun n=>(n,x.pos))=eu [] (L.map fun n=>(n,x.pos)) by
            rw [← Rf.out,drop_cons hn];rfl)
           have hone:=JU had n x.pos wB.heap.size wr HH.out;clear hn hsz;by_cases hgi : n∈had
           ·simp only [if_pos hgi] at hone
            have r9:=zh hone;have HT:=zh (show tgt = .at_ 9 x.pos by
             have h1 : eu [] ((x.params ++ x.vars).map fun n=>(n,x.pos))=some (9,x.pos):=by
              rw [← jG.out,← rZ.out,eu,if_pos hgi]
             rw [zy.out,← K8.out,Check.lG,h1];rfl)
            clear hone hgi;go_wp2_with fail;have hsz:=jM.out;refine r9.out.mono ?_;rintro _ w9 ⟨bN,b9,rfl,bP,bg⟩;have DW:=cO.out.size;have hss:=HS.out;have dm:=zh (show ae [] w w9 from(aC.out.then cO.out).trans bN (fun x hx=>.inr (by simp at hx <;> omega)));have vg:=zh (show ag w9 wm.heap.size #[.nilIface] 34 from(kZ.out.kept cO.out (by simp)).kept bN (by simp <;> omega));have dN:=zh bg;have dF:=zh bP;clear bN bg bP hss;go_wp2_with fail;refine DT _ _ _ _ _ _ rfl vg.out (fun w' hc=>?_);have hss:=HS.out;have bP:=dF.out;rw [HT.out];exact⟨dm.out.trans hc (fun x hx=>.inr (by simp at hx <;> omega)),b9,rfl,by omega,dN.out.kept hc (by simp <;> omega)⟩
           ·simp only [if_neg hgi] at hone
            have r9:=zh hone;have eZ:=zh (show eu (n :: had) ((L.drop (j + 1)).map fun n=>(n,x.pos))=eu [] (L.map fun n=>(n,x.pos)) by
             rw [← rZ.out]
             conv=>rhs;rw [eu,if_neg hgi])
            clear hone hgi;go_wp2_with fail;refine r9.out.mono ?_;rintro _ w4 ⟨rfl,hc4,xA⟩;have cz:=zh (HC.out.then hc4);have DX:=zh xA;clear hc4 xA;go_wp2_with fail;exact⟨⟨j + 1,n :: had,by go_num,by omega,cz.out,DX.out,eZ.out⟩,by simp [intOf];omega⟩
          ·have h1 : eu [] (L.map fun n=>(n,x.pos))=none:=by
            rw [← Rf.out,List.drop_eq_nil_of_le (by omega)];rfl
           obtain⟨cv',hcv⟩ : ∃ c:Env,c=⟨m.imports,seen,L,m.vars,m.procs⟩:=⟨_,rfl⟩
           have mR:=zh (show Check.lG m seen x=Check.aQ cv' x.body by rw [Check.lG,← jG.out,h1,hcv];rfl);have hev:lZ wr (fun y=>F y∨(w0.heap.size≤y∧y < wB.heap.size)) cv' wC.heap.size:=by
            rw [hcv];exact⟨(.inr ⟨by omega,by omega⟩),HM.out.imports,by show L.length≤1000;omega,HM.out.vars,HM.out.procs,m.name,.slice ai m.imports.length ci,.slice av m.vars.length cv,.slice (some ⟨b,o,none⟩) m.procs.length cp,.slice ab m.body.len cb,.map ov,.slice la L.length lc,Rc.out.kept HC.out (by simp;omega),
             ⟨ai,ci,rfl,hi1,(GU.out.kept cO.out (by simp)).mono (fun y hy=>.inl hy)⟩,⟨av,cv,rfl,hv1,(zu.out.kept cO.out (by simp)).mono (fun y hy=>.inl hy)⟩,uN (oz.mono (fun y hy=>.inl hy) ⟨some ⟨b,o,none⟩,cp,uO,rfl,hp1,oO.out.kept cO.out (by simp),tH.out.kept cO.out (by simp)⟩),(K5.out.kept cO.out (by simp)).mono (fun y hy=>.inl hy),⟨la,lc,rfl,hlc,(Re.out.kept HC.out (fun y hy hn=>by simp at hy;have:=hn.2;omega)).mono (fun y hy=>.inr ⟨by have:=hy.1;omega,by have:=hy.2;omega⟩)⟩⟩
           have vB:=zh (P7 cv' _ wC.heap.size x.body GV.out.1 GV.out.2 (.slice p3 x.body.len q3) wr hev (fT.mono (fun y hy=>.inl hy) ⟨p3,q3,Q8,rfl,hq3,HR3.out.kept cO.out (by simp),mY.out.kept cO.out (by simp)⟩));clear h1 hev hcv;cases hbl:Check.aQ cv' x.body with
           | none=>
            rw [hbl] at vB;have eZ:=zh (show Check.dV m seen (m.procs.drop (k + 1))=Check.dV m seen m.procs by
             rw [← K8.out,mR.out,hbl];rfl)
            clear hbl hsz;go_wp2_with fail;refine vB.out.mono ?_;rintro _ w5 ⟨bC,rfl⟩;have bI:=zh (cO.out.then bC);clear bC;go_wp2_with fail;exact⟨⟨k + 1,by go_num,by omega,bI.out,eZ.out⟩,by simp [intOf];omega⟩
           | some y=>
            obtain⟨en,q⟩:=y;rw [hbl] at vB;have HT:=zh (show tgt = .at_ en q by rw [zy.out,← K8.out,mR.out,hbl];rfl);clear hbl hsz;go_wp2_with fail;have hsz:=jM.out;refine vB.out.mono ?_;rintro _ w9 ⟨bN,b9,rfl,bP,bg⟩;have DW:=cO.out.size;have hss:=HS.out;have dm:=zh (show ae [] w w9 from(aC.out.then cO.out).trans bN (fun x hx=>.inr (by simp at hx <;> omega)));have vg:=zh (show ag w9 wm.heap.size #[.nilIface] 34 from(kZ.out.kept cO.out (by simp)).kept bN (by simp <;> omega));have dN:=zh bg;have dF:=zh bP;clear bN bg bP hss;go_wp2_with fail;refine DT _ _ _ _ _ _ rfl vg.out (fun w' hc=>?_);have hss:=HS.out;have bP:=dF.out;rw [HT.out];exact⟨dm.out.trans hc (fun x hx=>.inr (by simp at hx <;> omega)),b9,rfl,by omega,dN.out.kept hc (by simp <;> omega)⟩
        ·have Bb:=zh (show tgt = .of (Check.aQ ⟨m.imports,seen,[],m.vars,m.procs⟩ m.body) by
          have h0:Check.dV m seen m.procs=none:=by rw [← iL.out,List.drop_eq_nil_of_le (by omega)];rfl
          rw [zy.out,h0];rfl)
         have j6:=zh (mX.out.kept HC.out (by simp));have m0:=j6.out.cell 0 _ rfl;have m1:=j6.out.cell 1 _ rfl;have m2:=j6.out.cell 2 _ rfl;have m3:=j6.out.cell 3 _ rfl;have m4:=j6.out.cell 4 _ rfl;obtain⟨wB,fA⟩ : ∃ y,wr.alloc (.cells #[str m.name,.slice ai m.imports.length ci,.slice av m.vars.length cv,.slice ap m.procs.length cp,.slice ab m.body.len cb,.map ov,ah] 157)=y:=⟨_,rfl⟩
         have hck:=ag.new wr #[str m.name,.slice ai m.imports.length ci,.slice av m.vars.length cv,.slice ap m.procs.length cp,.slice ab m.body.len cb,.map ov,ah] 157;rw [fA] at hck;have hcB:ae [] wr wB:=by rw [← fA];exact(ae.refl _ _).alloc _
         have iH:=zh (HC.out.then hcB);have HKB:=zh hck;have n4 : wB.cell? ⟨w.heap.size,4,none⟩=_:=hcB.aH m4 (by simp);obtain⟨cv',hcv⟩ : ∃ c:Env,c=⟨m.imports,seen,[],m.vars,m.procs⟩:=⟨_,rfl⟩
         have hev:lZ wB (fun y=>F y∨y=wr.heap.size) cv' wr.heap.size:=by
          rw [hcv];exact⟨(.inr rfl),HM.out.imports,by show ([] : List (List UInt8)).length≤1000;simp,HM.out.vars,HM.out.procs,m.name,.slice ai m.imports.length ci,.slice av m.vars.length cv,.slice ap m.procs.length cp,.slice ab m.body.len cb,.map ov,ah,HKB.out,
           ⟨ai,ci,rfl,hi1,(GU.out.kept iH.out (by simp)).mono (fun y hy=>.inl hy)⟩,⟨av,cv,rfl,hv1,(zu.out.kept iH.out (by simp)).mono (fun y hy=>.inl hy)⟩,uN (oz.mono (fun y hy=>.inl hy) ⟨ap,cp,uO,rfl,hp1,oO.out.kept iH.out (by simp),tH.out.kept iH.out (by simp)⟩),(K5.out.kept iH.out (by simp)).mono (fun y hy=>.inl hy),eF.nil⟩
         have vB:=zh (P7 cv' _ wr.heap.size m.body HM.out.body.1 HM.out.body.2 (.slice ab m.body.len cb) wB hev ((aB.out.kept iH.out (by simp)).mono (fun y hy=>.inl hy)));have Bb:=zh (show tgt = .of (Check.aQ cv' m.body) by rw [hcv];exact Bb.out);clear hck hcB hev hcv iL;cases hbl:Check.aQ cv' m.body with
         | none=>
          rw [hbl] at vB Bb;clear hbl;go_wp2_with fail;clear fA m0 m1 m2 m3 m4 n4;refine vB.out.mono ?_;rintro _ w5 ⟨bC,rfl⟩;have HC:=zh (iH.out.then bC);clear bC;have e0:=(kZ.out.kept HC.out (by simp)).cell 0 _ rfl;have f0:=(kZ.out.kept HC.out (by simp)).frozen 0;obtain⟨wE,bV⟩ : ∃ x,w5.setCell ⟨wm.heap.size,0,none⟩ (.nilIface)=x:=⟨_,rfl⟩
          have fJ:=zh (show ae [wm.heap.size] w5 wE by rw [← bV];exact ae.set1 _ _ _ _);have gZ:=zh (show ag wE wm.heap.size #[.nilIface] 34 by rw [← bV];simpa using (kZ.out.kept HC.out (by simp)).set 0 (.nilIface));go_wp2_with fail;have hss:=HS.out;exact GQ _ _ _ _ _ rfl gZ.out (by rw [Bb.out];exact⟨(aC.out.then HC.out).trans fJ.out (fun x hx=>.inr (by simp at hx;omega)),rfl⟩)
         | some y=>
          obtain⟨en,q⟩:=y;rw [hbl] at vB Bb;clear hbl;go_wp2_with fail;clear fA m0 m1 m2 m3 m4 n4;refine vB.out.mono ?_;rintro _ w9 ⟨bN,b9,rfl,bP,bg⟩;have DW:=iH.out.size;have hss:=HS.out;have dm:=zh (show ae [] w w9 from(aC.out.then iH.out).trans bN (fun x hx=>.inr (by simp at hx <;> omega)));have vg:=zh (show ag w9 wm.heap.size #[.nilIface] 34 from(kZ.out.kept iH.out (by simp)).kept bN (by simp <;> omega));have dN:=zh bg;have dF:=zh bP;clear bN bg bP hss;go_wp2_with fail;refine DT _ _ _ _ _ _ rfl vg.out (fun w' hc=>?_);have hss:=HS.out;have bP:=dF.out;rw [Bb.out];exact⟨dm.out.trans hc (fun x hx=>.inr (by simp at hx <;> omega)),b9,rfl,by omega,dN.out.kept hc (by simp <;> omega)⟩
end Go.Proofs.YtechofppmnnomaaGreatDoor
