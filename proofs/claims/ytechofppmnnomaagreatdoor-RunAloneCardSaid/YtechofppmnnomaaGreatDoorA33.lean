/- Some texts in one. -/
import Derived.Test.YtechofppmnnomaaGreatDoorA28
import Derived.Test.YtechofppmnnomaaGreatDoorA32
namespace Go.Mq.Run
open Go Go.RowKit Go.Mq Go.Mq.Tree Go.Mq.Sym
open Classical
theorem aey {l:List bJ} (hn : (l.map (·.name)).Nodup) {x y:bJ} (hx : x∈l) (hy : y∈l) (h : x.name=y.name) : x=y:=by
 induction l with
 | nil=>cases hx
 | cons a r ih=>
  rw [List.map_cons,List.nodup_cons] at hn;rcases List.mem_cons.1 hx with h1|h1 <;> rcases List.mem_cons.1 hy with h2|h2
  ·rw [h1,h2]
  ·exact(hn.1 (List.mem_map.2 ⟨y,h2,by rw [← h,h1]⟩)).elim
  ·exact(hn.1 (List.mem_map.2 ⟨x,h1,by rw [h,h2]⟩)).elim
  ·exact ih hn.2 h1 h2
theorem UK {M:Ms} {l:List Nm} {b:Nm} : (l.any fun n=>sG M n b)=true ↔ ∃ n∈l,Run.Reach M n b:=by
 simp [sG,List.any_eq_true]
theorem aez {W:Wd} {m old:Mod} (h1:W.M m.name=some old) (h2:Go.Mq.Check.Out.fine=Go.Mq.Check.check m (dL W.M)) (h3 : ∃ n∈m.imports,Run.Reach W.M n m.name) : iE W m=(W,.plain 11):=by
 rw [iE,h1];simp only;rw [← h2];simp only;rw [if_pos h3]
theorem aeA {W:Wd} {m old:Mod} (h1:W.M m.name=some old) (h2:Go.Mq.Check.Out.fine=Go.Mq.Check.check m (dL W.M)) (h3 : ¬ ∃ n∈m.imports,Run.Reach W.M n m.name) (h4 : ∃ n∈W.order,∃ mn,W.M n=some mn∧fT (ofM old) (Go.Mq.Used.dZ m.name mn)≠fT (ofM m) (Go.Mq.Used.dZ m.name mn)) : iE W m=(W,.plain 6):=by
 rw [iE,h1];simp only;rw [← h2];simp only;rw [if_neg h3,if_pos h4]
theorem aeB {W:Wd} {m old:Mod} (h1:W.M m.name=some old) (h2:Go.Mq.Check.Out.fine=Go.Mq.Check.check m (dL W.M)) (h3 : ¬ ∃ n∈m.imports,Run.Reach W.M n m.name) (h4 : ¬ ∃ n∈W.order,∃ mn,W.M n=some mn∧fT (ofM old) (Go.Mq.Used.dZ m.name mn)≠fT (ofM m) (Go.Mq.Used.dZ m.name mn)) : iE W m=(⟨bI W.M m,nC W.vs old m,W.order⟩,.fine):=by
 rw [iE,h1];simp only;rw [← h2];simp only;rw [if_neg h3,if_neg h4]
def qy (vs:Nm→Option (List Int)) (old l all:List bJ):Nm→Option (List Int):=fun n=>if (l.any fun g=>g.name == n && old.any fun h=>h.name == n && h.len == g.len) then vs n else lU all n
theorem aeC (vs:Nm→Option (List Int)) (old all:List bJ) : qy vs old [] all=lU all:=by funext n;simp [qy]
theorem UL {vs:Nm→Option (List Int)} {old l all:List bJ} {g:bJ} (h : (old.any fun h=>h.name == g.name && h.len == g.len)=false) : qy vs old (l ++ [g]) all=qy vs old l all:=by
 funext n
 have : (g.name == n && old.any fun h=>h.name == n && h.len == g.len)=false:=by
  cases he : g.name == n with
  | false=>rfl
  | true=>
   have:=eq_of_beq he;subst this
   simpa using h
 simp only [qy,List.any_append,List.any_cons,List.any_nil,this,Bool.or_false]
theorem aeD {vs:Nm→Option (List Int)} {old l all:List bJ} {g:bJ} {x:List Int} (h : (old.any fun h=>h.name == g.name && h.len == g.len)=true) (hx : vs g.name=some x) : qy vs old (l ++ [g]) all=fun n=>if n=g.name then some x else qy vs old l all n:=by
 funext n
 by_cases he : n=g.name
 ·subst he
  simp only [qy,List.any_append,List.any_cons,List.any_nil,h,beq_self_eq_true,Bool.and_self,Bool.or_true,Bool.true_or,if_true,hx]
 ·have : (g.name == n)=false:=by simpa using fun e=>he e.symm
  simp only [qy,List.any_append,List.any_cons,List.any_nil,this,Bool.false_and,Bool.or_false,if_neg he]
theorem aeE (vs:Vs) (m old:Mod) : qy (vs m.name) old.vars m.vars m.vars=nC vs old m m.name:=by
 funext n
 rw [nC,if_pos rfl];by_cases h : Ii old m n=true
 ·rw [if_pos h];exact if_pos h
 ·rw [if_neg h];exact if_neg h
theorem MP {W:Wd} (hI:Inv W) {q:Nm} {old:Mod} (ho:W.M q=some old) {g:bJ} (hk : (old.vars.any fun h=>h.name == g.name && h.len == g.len)=true) : ∃ l,W.vs q g.name=some l∧l.length=jm g:=by
 obtain⟨h,hh,hb⟩:=List.any_eq_true.1 hk;simp only [Bool.and_eq_true,beq_iff_eq] at hb;have hs:=hI.shape q g.name;rw [ho] at hs;simp only [Option.bind_some] at hs;rw [← hb.1,Et (Mj hI.ok ho) hh,hb.1] at hs;cases hv:W.vs q g.name with
 | none=>rw [hv] at hs;cases hs
 | some l=>
  rw [hv] at hs;simp only [Option.map_some,Option.some.injEq] at hs;exact⟨l,rfl,by rw [hs,zeros,List.length_replicate,jm,jm,hb.2]⟩
theorem aeF {W:Wd} (hI:Inv W) {q:Nm} {old m:Mod} (ho:W.M q=some old) (hn : (m.vars.map (·.name)).Nodup) {l:List bJ} {g:bJ} (hg : g∈m.vars) (hl : ∀ x∈l,x∈m.vars) : ∃ y,qy (W.vs q) old.vars l m.vars g.name=some y∧y.length=jm g:=by
 rw [qy];split
 ·next h=>
  obtain⟨x,hx,hb⟩:=List.any_eq_true.1 h;simp only [Bool.and_eq_true,beq_iff_eq] at hb;have hxg : x=g:=aey hn (hl x hx) hg hb.1;subst hxg;exact MP hI ho hb.2
 ·exact⟨_,Et hn hg,by simp [zeros]⟩
end Go.Mq.Run
namespace Go.Proofs.YtechofppmnnomaaGreatDoor
open Go Go.RowKit Go.Mq Go.Mq.Tree Go.Mq.Sym Go.Mq.Run
open Go.Mq.Check (fG bZ bK dx check Out eQ)
open Go.Mq.fu (bA getM dG jX lL mR kH)
open Go.Mq.Used (dZ Hd RY)
set_option maxRecDepth 100000
set_option maxHeartbeats 4000000
def xW (w:World) (Own G Gm:Nat→Prop) (bw:Nat) (r:Wd × Out) (e:Ending) (w':World):Prop:=
 ∃ vo,e = .returned vo∧qi w' r.2 vo∧dP w' (More Own w w') (fun x=>G x∨Gm x) bw r.1∧uh Own w w'
theorem xW.no {w w':World} {Own G Gm:Nat→Prop} {bw:Nat} {W:Wd} {o:Out} {vo:Value} (h:dP w Own G bw W) (hc:ae [] w w') (hgm : ∀ x,Gm x→x < w.heap.size∧¬ Own x) (he:qi w' o vo):xW w Own G Gm bw (W,o) (.returned vo) w':=
 ⟨_,rfl,he,h.idle hc hgm,.of hc⟩
theorem aeG {m:Mod} (hg:lW m) {F:Nat→Prop} {ai:Option Addr} {ci:Nat} {av:Option Addr} {cv:Nat} {ap:Option Addr} {cp:Nat} {ab:Option Addr} {cb:Nat} (w:World) (h:kG w F m (.agg #[str m.name,.slice ai m.imports.length ci,.slice av m.vars.length cv,.slice ap m.procs.length cp,.slice ab m.body.len cb])) :
  Calls Tryz.prog 52 #[.agg #[str m.name,.slice ai m.imports.length ci,.slice av m.vars.length cv,.slice ap m.procs.length cp,.slice ab m.body.len cb]] w (fun e w'=>∃ v,e = .returned v∧l8 w' (New w w') (ofM m) v∧ae [] w w'):=by
 obtain⟨vi,vv,vp,vb,he,hi,hv,hp,hb⟩:=h;cases he
 exact P5 m.vars m.procs hg.wf.qK hg.wf.wY F m.name ai _ ci ab _ cb _ _ w hv (uQ hp)
theorem UM {m:Mod} (hg:lW m) (names:List Nm) (hn : names.length≤1000) (hs : ∀ n∈names,n.length≤10) (F F':Nat→Prop) (v v':Value) (w:World) (B:Nat) (hL:Laid w B) (h:l8 w F (ofM m) v) (h':eF w F' names v') :
  Calls Tryz.prog 54 #[v,v'] w (fun e w'=>e = .returned (str (fT (ofM m) names))∧ae [] w w'):=
 Zb (ofM m) (Mi hg) (by have:=Qd hg.wf.qK hg.wf.wY;rw [ofM];omega) names hn (fun n h=>by have:=hs n h;omega) F F' v v' w B hL h h'
theorem aeH {m:Mod} (hg:lW m) (g:List UInt8) : (dZ g m).length≤1000:=by
 rw [dZ,List.length_mergeSort];exact Nat.le_trans (RY g m) hg.cnt
theorem aeI : ∀ (a:Addr) (k:Nat) (w:World),(binOp .neq 41 (.slice (some a) k k) (.slice none 0 0)).run Tryz.prog w = .ok (.bool true) w:=fun _ _ _=>by kernel_rfl
theorem aeJ : ∀ (w:World),(binOp .neq 41 (.slice none 0 0) (.slice none 0 0)).run Tryz.prog w = .ok (.bool false) w:=fun _=>by kernel_rfl
theorem aeK {w:World} {a b:Nat} {l:List Int} {cur:Array Value} (ty:TypeId) (ha:ag w a (ints l).toArray bN) (hb:ag w b cur bN) (hn : cur.size=l.length) :
  ∃ w',(Builtin.copy_ #[41,41] ty #[.slice (some ⟨b,0,none⟩) l.length l.length,.slice (some ⟨a,0,none⟩) l.length l.length]).run Tryz.prog w = .ok (goInt l.length) w'∧ae [b] w w'∧ag w' b (ints l).toArray bN:=by
 have h:=run_copy_row (P:=Tryz.prog) w 41 41 ty bN b 0 l.length l.length ⟨a,0,none⟩ l.length l.length cur bN (ints l) Tryz.underlying41 (by kernel_rfl) hb (by simp) (fun j v hv=>by
  have hx:=ha.cell j v (by simpa using hv);by_cases hj : j=0
  ·subst hj;simpa [Addr.add] using hx
  ·simpa [Addr.add,hj] using hx) (by simp;omega) (fun v hv=>by
  obtain⟨x,_,rfl⟩:=List.mem_map.1 hv
  rfl)
 have he : (cur.toList.take 0 ++ ints l ++ cur.toList.drop (0 + (ints l).length)).toArray=(ints l).toArray:=by
  rw [List.drop_of_length_le (by simp;omega)];simp
 rw [he] at h;refine⟨w.setRow b (ints l).toArray,by simpa using h,⟨rfl,rfl,rfl,by simp,fun k _ hk=>setRow_other w b k _ (fun e=>hk (by simp [e]))⟩,setRow_heap w b cur _ bN _ hb⟩
theorem aeL {w:World} {b:Nat} (v0 v1 v2 v3 v4 v5:Value) {u0 u1 u2 u3 u4 u5:Value} {t:TypeId} (h:ag w b #[u0,u1,u2,u3,u4,u5] t) : ∃ wF,((((((w.setCell ⟨b,0,none⟩ v0).setCell ⟨b,1,none⟩ v1).setCell ⟨b,2,none⟩ v2).setCell ⟨b,3,none⟩ v3).setCell ⟨b,4,none⟩ v4).setCell ⟨b,5,none⟩ v5)=wF∧ae [b] w wF∧ag wF b #[v0,v1,v2,v3,v4,v5] t:=
 ⟨_,rfl,(((((ae.set1 _ _ _ _).then (ae.set1 _ _ _ _)).then (ae.set1 _ _ _ _)).then (ae.set1 _ _ _ _)).then (ae.set1 _ _ _ _)).then (ae.set1 _ _ _ _),by
  have:=(((((h.set 0 v0).set 1 v1).set 2 v2).set 3 v3).set 4 v4).set 5 v5
  simpa using this⟩
theorem aeM {w:World} {Own G Gm:Nat→Prop} {bw:Nat} {W:Wd} {m:Mod} {vm:Value} {B:Nat} (h:dP w Own G bw W) (hI:Inv W) (hm:kG w Gm m vm) (hgm : ∀ x,Gm x→x < w.heap.size∧¬ Own x) (hgood:lW m) (hL:Laid w B) :
  Calls Tryz.prog 24 #[ptr bw,vm] w (xW w Own G Gm bw (iE W m)):=by
 have pU : ∀ (fn:Fn) (first cap:Array Value) (w:World),(Instr.makeFunc fn first cap).run Tryz.prog w = .ok (.func fn first cap) w:=fun _ _ _ _=>rfl
 have hne1:=aeI;have hne2:=aeJ;obtain⟨pv,oa,oc,hfr⟩:=h.front;obtain⟨ai,ci,av,cv,ap,cp,ab,cb,rfl⟩ : ∃ (ai:Option Addr) (ci:Nat) (av:Option Addr) (cv:Nat) (ap:Option Addr) (cp:Nat) (ab:Option Addr) (cb:Nat),vm = .agg #[str m.name,.slice ai m.imports.length ci,.slice av m.vars.length cv,.slice ap m.procs.length cp,.slice ab m.body.len cb]:=by
  obtain⟨vi,vv,vp,vb,rfl,⟨ai,ci,rfl,_⟩,⟨av,cv,rfl,_⟩,⟨ap,cp,tJ,rfl,_⟩,⟨ab,cb,Bg,rfl,_⟩⟩:=hm;exact⟨_,_,_,_,_,_,_,_,rfl⟩
 obtain⟨w0,hw0⟩ : ∃ x,w.alloc (.cells #[ptr bw] 50)=x:=⟨_,rfl⟩
 have hb0:ag w0 w.heap.size #[ptr bw] 50:=by rw [← hw0];exact ag.new w _ _
 have hc0:ae [] w w0:=by rw [← hw0];exact(ae.refl _ _).alloc _
 have hs0 : w0.heap.size=w.heap.size + 1:=by rw [← hw0];simp
 obtain⟨w1,hw1⟩ : ∃ x,w0.alloc (.cells #[str m.name,.slice ai m.imports.length ci,.slice av m.vars.length cv,.slice ap m.procs.length cp,.slice ab m.body.len cb] 32)=x:=⟨_,rfl⟩
 have hb1:ag w1 w0.heap.size #[str m.name,.slice ai m.imports.length ci,.slice av m.vars.length cv,.slice ap m.procs.length cp,.slice ab m.body.len cb] 32:=by rw [← hw1];exact ag.new w0 _ _
 have hc1:ae [] w0 w1:=by rw [← hw1];exact(ae.refl _ _).alloc _
 have hs1 : w1.heap.size=w0.heap.size + 1:=by rw [← hw1];simp
 obtain⟨b2,hb2⟩ : ∃ b,b=w.heap.size:=⟨_,rfl⟩
 obtain⟨b3,hb3⟩ : ∃ b,b=w0.heap.size:=⟨_,rfl⟩
 have Ei:ae [] w w1:=hc0.then hc1
 obtain⟨wD,aH⟩ : ∃ x,x=w1.drew:=⟨_,rfl⟩
 have xM:ae [] w1 wD:=by rw [aH];exact(ae.refl [] w1).drew
 have bg:ae [] w wD:=Ei.then xM
 have IE:=(hb0.kept hc1 (by simp)).kept xM (by simp);have IG:=hb1.kept xM (by simp);have hwb:=hfr.blk.kept bg (by simp);rw [← hb2] at IE;rw [← hb3] at IG;have x2:=IE.cell 0 _ rfl;have x3:=IG.cell 0 _ rfl;have b0:=hwb.cell 0 _ rfl;obtain⟨o,hlk⟩:=Hl hfr m.name;have fU:=zh (fun w' (hc:ae [] wD w')=>hlk w' (bg.then hc));clear hlk;have dK:=zh (show b2=w.heap.size∧b3=w.heap.size + 1∧wD.heap.size=w.heap.size + 2 by
  refine⟨hb2,by omega,by rw [aH];show w1.heap.size=_;omega⟩)
 have H:=zh h;have HI:=zh hI;have HM:=zh hm;have je:=zh hgm;have gW:=zh hgood;have HL:=zh hL;have di:=zh hfr;have MQ:=zh IE;have xX:=zh IG;have dW:=zh bg;clear h hI hm hgm hgood hL hfr hb0 hc0 hs0 hb1 hc1 hs1 Ei xM bg IE IG hwb;cases hold:W.M m.name with
 | none=>
  rw [hold] at fU;have HR:=zh (show (W,Out.plain 7)=iE W m by rw [iE,hold]);clear hold
  go_enter Tryz.func24,Tryz.ntmps24
  go_wp2_with fail;rw [← hb2,← hb3];clear hw0 hw1 hb2 hb3;refine uq [] rfl (by kernel_rfl) ?_;rw [← aH];clear aH;have hS:ae [] wD wD:=ae.refl _ _
  repeat ((with_reducible refine gX ?_);(first|refine aL ?_|refine sK ?_|refine sM fun _ _=>?_|refine sL fun _ _=>?_|refine sE fun _ _=>?_);go_wp2_with fail)
  refine qU rfl rfl rfl rfl fU.out ?_;go_wp2_with fail
  repeat ((with_reducible refine gX ?_);(first|refine aL ?_|refine sK ?_|refine sM fun _ _=>?_|refine sL fun _ _=>?_|refine sE fun _ _=>?_);go_wp2_with fail)
  go_ret
  rw [← HR.out];exact xW.no H.out dW.out je.out rfl
 | some old=>
  rw [hold] at fU;obtain⟨bp,L,bQ,rfl,hhas,fZ⟩ : ∃ bp L bQ,pv=some bp∧Has w Own G bw W L∧nk w Own G bw W L bp (.slice oa W.order.length oc) bQ:=by
   rcases di.out.at_ with⟨_,rfl,_⟩|h
   ·cases hold
   ·exact h
  have hqq:=fZ.2.2.2.2.2.2 m.name;rw [hold] at hqq;obtain⟨hget,hown,Ub,_,Ex⟩:=hqq;have hlk2 : ∀ w',ae [] wD w'→(Instr.lookup 38 (.map (some bp)) (str m.name) true).run Tryz.prog w' = .ok (.tuple #[ptr (L.pb m.name),.bool true]) w':=fun w' hc=>by
   have hl:=lL (P:=Tryz.prog) Tryz.underlying38 Tryz.underlying9 (rV w') (fZ.2.2.1.kept (dW.out.then hc) (by simp)) m.name;rw [hget] at hl;exact hl
  have fU:=zh hlk2;have kQ:=zh hhas;have fD:=zh fZ;have MR:=zh Ex;have HOLD:=zh hold;clear hhas fZ hget hown Ex hold hlk2
  go_enter Tryz.func24,Tryz.ntmps24
  go_wp2_with fail;rw [← hb2,← hb3];clear hw0 hw1 hb2 hb3;refine uq [] rfl (by kernel_rfl) ?_;rw [← aH];clear aH;have hS:ae [] wD wD:=ae.refl _ _
  repeat ((with_reducible refine gX ?_);(first|refine aL ?_|refine sK ?_|refine sM fun _ _=>?_|refine sL fun _ _=>?_|refine sE fun _ _=>?_);go_wp2_with fail)
  refine qU rfl rfl rfl rfl fU.out ?_;have sJ:=zh (R4 (H.out.kept dW.out (by simp)));go_wp2_with fail
  repeat ((with_reducible refine gX ?_);(first|refine aL ?_|refine sK ?_|refine sM fun _ _=>?_|refine sL fun _ _=>?_|refine sE fun _ _=>?_);go_wp2_with fail)
  refine sJ.out.mono ?_;rintro _ w3 ⟨vs,rfl,hsv,hc3⟩;obtain⟨sv,rfl⟩ : ∃ ov,vs = .map ov:=by
   rcases hsv with⟨h,_⟩|⟨b,_,h,_⟩
   ·exact⟨_,h⟩
   ·exact⟨_,h⟩
  have Gf:=zh hsv;have bz:=zh hc3;have vz:=zh (Rm m gW.out.few (dL W.M) (fun x=>Gm x∨New wD w3 x) _ (.map sv) w3 (fun x hx=>by
   rcases hx with hx|hx
   ·have:=(je.out x hx).1;have:=(dW.out.then hc3).size;omega
   ·exact hx.2) ((HM.out.kept (dW.out.then hc3) (by simp)).mono (fun x hx=>.inl hx)) (hsv.mono (fun x hx=>.inr hx)))
  clear hS x2 x3 b0 hsv hc3;have h3:=xX.out.kept bz.out (by simp);have q0:=h3.cell 0 _ rfl;have q1:=h3.cell 1 _ rfl;have q2:=h3.cell 2 _ rfl;have q3:=h3.cell 3 _ rfl;have q4:=h3.cell 4 _ rfl;clear h3;go_wp2_with fail;refine vz.out.mono ?_;rintro e w4 ⟨hc4,hck⟩;have UN:=zh hc4;have cu:=zh (bz.out.then hc4);have lX:=zh (dW.out.then (bz.out.then hc4));clear hc4 q0 q1 q2 q3 q4;obtain⟨LQ,hoc⟩ : ∃ o,o=check m (dL W.M):=⟨_,rfl⟩
  rw [← hoc] at hck;have sD:=zh hoc;clear hoc;cases LQ with
  | plain n=>
   simp only at hck;subst hck;have HR:=zh (show (W,Out.plain n)=iE W m by rw [iE,HOLD.out];simp only;rw [← sD.out]);go_wp2_with fail;go_ret
   rw [← HR.out];exact xW.no H.out lX.out je.out rfl
  | at_ en p=>
   obtain⟨ba,rfl,jN,hbb⟩:=hck;have HR:=zh (show (W,Out.at_ en p)=iE W m by rw [iE,HOLD.out];simp only;rw [← sD.out]);have qf:=zh hbb;clear jN hbb;go_wp2_with fail;go_ret
   rw [← HR.out];exact xW.no H.out lX.out je.out ⟨ba,rfl,qf.out⟩
  | fine=>
   simp only at hck;subst hck;have h3:=xX.out.kept cu.out (by simp);have h2:=MQ.out.kept cu.out (by simp);have q1:=h3.cell 1 _ rfl;obtain⟨vi,vv,vp,vb,nS,hni,_,_,_⟩:=HM.out.kept lX.out (by simp);cases nS
   have dM:=zh (T9 50 (fun _ _=>rfl) m.imports gW.out.few.imports (fun n=>sG W.M n m.name) (ptr b2) (ptr b3) _ _ w4 hni (fun n hn w' hc=>by
    have z0:=(h2.kept hc (by simp)).cell 0 _ rfl;have z1:=(h3.kept hc (by simp)).cell 0 _ rfl;have HRR:=zh (adJ H.out m.name n (HI.out.BF n) w' (lX.out.then hc));clear h2 h3 hni q1 vz sJ fU kQ fD MR di
    go_enter Tryz.func50,Tryz.ntmps50
    go_wp2_with fail;refine HRR.out.mono ?_;rintro _ w2 ⟨rfl,hc2⟩;go_wp2_with fail;go_ret
    exact⟨rfl,hc2⟩))
   clear h2 h3 hni;go_wp2_with fail;refine dM.out.mono ?_;rintro _ w5 ⟨rfl,bH⟩;have UO:=zh bH;have cO:=zh (cu.out.then bH);have MS:=zh (lX.out.then bH);clear bH q1;cases hany : (m.imports.any fun n=>sG W.M n m.name) with
   | true=>
    have HR:=zh (aez HOLD.out sD.out (UK.1 hany)).symm;clear hany;go_wp2_with fail;go_ret
    rw [← HR.out];exact xW.no H.out MS.out je.out rfl
   | false=>
    have UQ:=zh (show ¬ ∃ n∈m.imports,Run.Reach W.M n m.name from fun h=>by rw [UK.2 h] at hany;cases hany);clear hany;have h3:=xX.out.kept cO.out (by simp);have q0:=h3.cell 0 _ rfl;have q1:=h3.cell 1 _ rfl;have q2:=h3.cell 2 _ rfl;have q3:=h3.cell 3 _ rfl;have q4:=h3.cell 4 _ rfl;clear h3;have nQ:=zh (aeG gW.out w5 (HM.out.kept MS.out (by simp)));go_wp2_with fail;refine nQ.out.mono ?_;rintro _ w6 ⟨nv,rfl,nV,hc6⟩;have HNV:=zh nV;have Ml:=zh hc6;have bD:=zh (cO.out.then hc6);have zU:=zh (MS.out.then hc6);clear nV hc6 q0 q1 q2 q3 q4;have x2:=(MQ.out.kept bD.out (by simp)).cell 0 _ rfl;have b1:=(di.out.blk.kept zU.out (by simp)).cell 1 _ rfl;have hlen:=H.out.few;have hown:=fD.out.2.1;have HOW:=zh (cK hown zU.out (by simp));clear hown;go_wp2_with fail;clear x2 b1
    go_loopw [11,12,50] (fun _ _ i wr=>∃ k:Nat,i = .int .i64 k∧k≤W.order.length∧ae [] w6 wr ∧ ∀ (i:Nat) (x:Nm),i < k→W.order[i]?=some x → ∀ mn,W.M x=some mn→fT (ofM old) (dZ m.name mn)=fT (ofM m) (dZ m.name mn)) (fun _ _ i _=>W.order.length - (intOf i).toNat)
    case atStart=>exact⟨0,rfl,Nat.zero_le _,ae.refl _ _,fun i x hi=>by omega⟩
    case round=>
     obtain⟨k,rfl,hk,hc,hno⟩:=hrel;have eu:=zh hno;have HC:=zh hc;clear hno hc;by_cases hlt : k < W.order.length
     ·obtain⟨s,hs⟩ : ∃ s,W.order[k]?=some s:=⟨W.order[k],List.getElem?_eq_getElem hlt⟩
      obtain⟨mn,p8⟩:=Option.isSome_iff_exists.1 ((HI.out.order s).1 (List.mem_of_getElem? hs));obtain⟨bo,oo,hoa,hoc⟩ : ∃ bb off,oa=some ⟨bb,off,none⟩∧wr.cell? ⟨bb,off + k,none⟩=some (str s):=by
       obtain⟨a',c',he,_,hr⟩:=Row.jU (F:=fun _=>True) (cK HOW.out HC.out (by simp)) (fun _ _=>trivial);simp only [Value.slice.injEq] at he;obtain⟨rfl,_⟩:=he;have hl : k < (W.order.map str).length:=by simpa using hlt
       obtain⟨bb,off,rfl,hc⟩:=Dj hr hl;refine⟨bb,off,rfl,?_⟩;rw [hc];simp only [List.getElem_map];rw [List.getElem?_eq_getElem hlt,Option.some.injEq] at hs;rw [hs]
      subst hoa;have hqq:=fD.out.2.2.2.2.2.2 s;rw [p8] at hqq;obtain⟨hget,_,bvn,_,hpn⟩:=hqq;obtain⟨wE,bW⟩ : ∃ x,x=wr.drew:=⟨_,rfl⟩
      have gu:ae [] w6 wE:=HC.out.then (by rw [bW];exact(ae.refl [] wr).drew)
      have II:ae [] w wE:=zU.out.then gu
      have fK:=zh gu;have IJ:=zh II;obtain⟨_,_,ain,cin,avn,cvn,apn,cpn,abn,cbn,fE,esn,hp3,MU,_,_,_⟩:=hpn.kept II (by simp);have RJ:=zh MU;have n0:=hp3.cell 0 _ rfl;have n1:=hp3.cell 1 _ rfl;have n2:=hp3.cell 2 _ rfl;have n3:=hp3.cell 3 _ rfl;have n4:=hp3.cell 4 _ rfl;have x2:=(MQ.out.kept (bD.out.then gu) (by simp)).cell 0 _ rfl;have x3:=(xX.out.kept (bD.out.then gu) (by simp)).cell 0 _ rfl;have b0:=(di.out.blk.kept II (by simp)).cell 0 _ rfl;have kY:=zh (fun w' (hc:ae [] wE w')=>(show (Instr.lookup 38 (.map (some bp)) (str s) false).run Tryz.prog w' = .ok (ptr (L.pb s)) w' by
       have hl:=jX (P:=Tryz.prog) Tryz.underlying38 Tryz.underlying9 (rV w') (fD.out.2.2.1.kept (IJ.out.then hc) (by simp)) s;rw [hget] at hl;exact hl))
      have hgn:=HI.out.ok.good s mn p8;have Df:=zh (aeu mn hgn.1.few hgn.1.cnt m.name (fun x=>x < wE.heap.size) _ wE (fun x hx=>hx) (by
       refine MU.mono (fun x hx=>?_);have h1:=kQ.out.fix x hx.1;have h2:=H.out.lt x h1;have:=IJ.out.size
       show x < _
       omega))
      have HS:=zh hs;have UR:=zh p8;have UT:=zh hgn;clear hs p8 hget hpn gu II hp3 MU hgn;go_wp2_with fail;refine uq [] rfl (by kernel_rfl) ?_;rw [← bW];clear bW hoc;have hS:ae [] wE wE:=ae.refl _ _
      repeat ((with_reducible refine gX ?_);(first|refine aL ?_|refine sK ?_|refine sM fun _ _=>?_|refine sL fun _ _=>?_|refine sE fun _ _=>?_);go_wp2_with fail)
      refine qU rfl rfl rfl rfl kY.out ?_;go_wp2_with fail
      repeat ((with_reducible refine gX ?_);(first|refine aL ?_|refine sK ?_|refine sM fun _ _=>?_|refine sL fun _ _=>?_|refine sE fun _ _=>?_);go_wp2_with fail)
      refine Df.out.mono ?_;rintro _ w7 ⟨u,rfl,hu,dQ⟩;have HU:=zh hu;have gH:=zh dQ;have xY:=fK.out.then dQ
      have BK:=zh xY;have x3':=(xX.out.kept (bD.out.then xY) (by simp)).cell 0 _ rfl;obtain⟨su,hls,_,_,hsy⟩:=J7 Gf.out m.name;have vO:=hls w7 ((UN.out.then (UO.out)).then (Ml.out.then xY));have hso : dL W.M m.name=some (ofM old):=by rw [dL,HOLD.out];rfl
      rw [hso] at hsy;simp only [Option.getD_some] at hsy;have hnl:=aeH UT.out.1 m.name;have hns:=Hd m.name UT.out.1.wf;have zV:=zh (UM (HI.out.ok.good m.name old HOLD.out).1 (dZ m.name mn) hnl hns _ _ _ _ w7 B ((HL.out.kept (zU.out.then xY) (by simp))) (hsy.kept ((UN.out.then (UO.out)).then (Ml.out.then xY)) (by simp)) hu);have UU:=zh (fun w8 (hc8:ae [] w7 w8)=>UM gW.out (dZ m.name mn) hnl hns _ _ _ _ w8 B ((HL.out.kept (zU.out.then (xY.then hc8)) (by simp))) (HNV.out.kept (xY.then hc8) (by simp)) (hu.kept hc8 (by simp)));obtain⟨t1,ht1⟩ : ∃ t,t=fT (ofM old) (dZ m.name mn):=⟨_,rfl⟩
      obtain⟨t2,ht2⟩ : ∃ t,t=fT (ofM m) (dZ m.name mn):=⟨_,rfl⟩
      rw [← ht1] at zV;simp only [← ht2] at UU;have HT1:=zh ht1;have HT2:=zh ht2;clear hS n0 n1 n2 n3 n4 x2 x3 b0 hu dQ xY hls hsy hso hnl hns ht1 ht2;go_wp2_with fail;refine And.intro gH.out ?_;have hS:=gH.out
      repeat ((with_reducible refine gX ?_);(first|refine aL ?_|refine sK ?_|refine sM fun _ _=>?_|refine sL fun _ _=>?_|refine sE fun _ _=>?_);go_wp2_with fail)
      refine zV.out.mono ?_;rintro _ w8 ⟨rfl,hc8⟩;have fO:=zh hc8;clear hS vO x3';go_wp2_with fail;refine(UU.out w8 fO.out).mono ?_;rintro _ w9 ⟨rfl,bR⟩;have dh:=zh (BK.out.then (fO.out.then bR));clear hc8 bR;cases hq : (t1 == t2) with
      | true=>
       have jl : t1=t2:=by simpa using hq
       have aR:=zh jl;clear jl;go_wp2_with fail;refine⟨⟨k + 1,by go_num,by omega,dh.out,fun i x hi hx=>?_⟩,by simp [intOf];omega⟩;by_cases he : i < k
       ·exact eu.out i x he hx
       ·have : i=k:=by omega
        subst this;rw [HS.out] at hx;cases hx
        intro mn' UW;rw [UR.out] at UW;cases UW
        rw [← HT1.out,← HT2.out,aR.out]
      | false=>
       have hne : t1≠t2:=by simpa using hq
       have HR:=zh (aeA HOLD.out sD.out UQ.out ⟨s,List.mem_of_getElem? HS.out,mn,UR.out,by rw [← HT1.out,← HT2.out];exact hne⟩).symm;clear hne;go_wp2_with fail;go_ret
       rw [← HR.out];exact xW.no H.out (zU.out.then dh.out) je.out rfl
     ·have HNS:=zh (show ¬ ∃ n∈W.order,∃ mn,W.M n=some mn∧fT (ofM old) (dZ m.name mn)≠fT (ofM m) (dZ m.name mn) from fun⟨n,hn,mn,p8,hne⟩=>by
       obtain⟨i,hi⟩:=List.getElem?_of_mem hn;exact hne (eu.out i n (by have:=(List.getElem?_eq_some_iff.1 hi).1;omega) hi mn p8))
      have HR:=zh (aeB HOLD.out sD.out UQ.out HNS.out).symm;have h3:=xX.out.kept (bD.out.then HC.out) (by simp);have q0:=h3.cell 0 _ rfl;have q1:=h3.cell 1 _ rfl;have q2:=h3.cell 2 _ rfl;have q3:=h3.cell 3 _ rfl;have q4:=h3.cell 4 _ rfl;clear h3;have hcr:=zU.out.then HC.out
      have qQ:=zh hcr;have aeR:=zh (Sd m gW.out.wf.qK (fun g hg=>⟨(gW.out.wf.vars g hg).low,(gW.out.wf.vars g hg).high⟩) Gm ai ci av cv ap cp ab cb wr (by
       obtain⟨vi,vv,vp,vb,he,_,hgl,_⟩:=HM.out.kept hcr (by simp);cases he
       exact hgl) wr (ae.refl _ _))
      clear hcr;go_wp2_with fail;refine aeR.out.mono ?_;rintro _ w7 ⟨bv,ak,au,rfl,hbv,hva,dQ⟩;have aeS:=zh (show (m.vars.map (·.name)).Nodup from(List.nodup_append.1 ((Check.kI _ _).1 sD.out.symm).2.1).1);have iQ:=zh hva;have Em:=zh hbv;have gH:=zh dQ;clear hlt hk q0 q1 q2 q3 q4 hva hbv;have q2:=(xX.out.kept ((bD.out.then HC.out).then dQ) (by simp)).cell 2 _ rfl;have aeT:=zh (bD.out.then HC.out);obtain⟨wL,zy⟩ : ∃ x,x=wr:=⟨_,rfl⟩
      subst zy;clear dQ HC eu;go_wp2_with fail;clear q2
      go_loopw [15,16,83] (fun _ _ i wr=>∃ k:Nat,i = .int .i64 k∧k≤m.vars.length∧qp wr wL.heap.size bv (qy (W.vs m.name) old.vars (m.vars.take k) m.vars) ak au∧ae [] wL wr) (fun _ _ i _=>m.vars.length - (intOf i).toNat)
      case atStart=>exact⟨0,rfl,Nat.zero_le _,by rw [List.take_zero,aeC];exact qp.of iQ.out,gH.out⟩
      case round=>
       obtain⟨k,rfl,hk,hv,hc⟩:=hrel;have HV:=zh hv;have HC:=zh hc;clear hv hc;have LF:=gW.out.wf.qK;by_cases hlt : k < m.vars.length
       ·obtain⟨s,hs⟩ : ∃ s,m.vars[k]?=some s:=⟨m.vars[k],List.getElem?_eq_getElem hlt⟩
        obtain⟨bb,off,hav,d0,d1,d2,d3⟩ : ∃ bb off,av=some ⟨bb,off,none⟩∧wr.cell? ⟨bb,off + k * 4,none⟩=some (str s.name)∧wr.cell? ⟨bb,off + k * 4 + 1,none⟩=some (num s.pos)∧wr.cell? ⟨bb,off + k * 4 + 2,none⟩=some (num s.len)∧wr.cell? ⟨bb,off + k * 4 + 3,none⟩=some (.bool s.seen):=by
         obtain⟨vi,vv,vp,vb,he,_,⟨a',c',he2,hac,hrow⟩,_⟩:=(HM.out.kept qQ.out (by simp)).kept HC.out (by simp);cases he
         cases he2
         exact Check.AL hrow hs
        subst hav;have hz:=ag.new wr #[str [],num 0,num 0,.bool false] 68;obtain⟨wA,ay⟩ : ∃ wA,wr.alloc (.cells #[str [],num 0,num 0,.bool false] 68)=wA:=⟨_,rfl⟩
        rw [ay] at hz;have hcA:ae [] wr wA:=by rw [← ay];exact(ae.refl _ _).alloc _
        obtain⟨wF,hwF,aZ,aG⟩:=RO (str s.name) (num s.pos) (num s.len) (.bool s.seen) hz;have hcw:ae [] wr wF:=hcA.trans aZ (fun x hx=>.inr (by simp at hx;omega));have g0:=hcA.aF d0 (by simp);have g1:=hcA.aF d1 (by simp);have g2:=hcA.aF d2 (by simp);have g3:=hcA.aF d3 (by simp);have z0:=hz.cell 0 _ rfl;have z1:=hz.cell 1 _ rfl;have z2:=hz.cell 2 _ rfl;have z3:=hz.cell 3 _ rfl;have y0:=hz.frozen 0;have y1:=hz.frozen 1;have y2:=hz.frozen 2;have y3:=hz.frozen 3;obtain⟨b15,MV⟩ : ∃ b,b=wr.heap.size:=⟨_,rfl⟩
        obtain⟨wE,bW⟩ : ∃ x,x=wF.drew:=⟨_,rfl⟩
        have MW:ae [] wF wE:=by rw [bW];exact(ae.refl [] wF).drew
        have IK:ae [] wr wE:=hcw.then MW
        have MX:ag wE b15 #[str s.name,num s.pos,num s.len,.bool s.seen] 68:=by rw [MV];exact aG.kept MW (by simp)
        have UX:=zh MX;have fK:=zh IK;have UY:=zh (HC.out.then IK);have IJ:=zh (qQ.out.then (HC.out.then IK));obtain⟨_,_,aio,cio,UZ,U0,apo,cpo,abo,cbo,bvq,eso,hp3,U1,_,U2,U3⟩:=MR.out.kept IJ.out (by simp);have n5:=hp3.cell 5 _ rfl;have n2:=hp3.cell 2 _ rfl;have f0:=MX.cell 0 _ rfl;have kY:=zh (fun w' (hc:ae [] wE w')=>jX (P:=Tryz.prog) Tryz.underlying99 Tryz.underlying9 (Gt w') (U2.kept hc (by simp)) s.name);rw [U3 s.name] at kY;have IL:=zh ((kQ.out.home.dyn m.name s.name));have ae3:=zh (show lJ wE (fun x=>L.Fix x∧(G x∨x=L.pb m.name∨x=Ub)) old.vars (.slice UZ old.vars.length U0) by
         obtain⟨vi,vv,vp,vb,he,_,hg,_⟩:=U1;cases he
         exact hg)
        have HS:=zh hs;clear hs hp3 U1 U2 U3 MW IK MX hcw aZ aG hcA hz;go_wp2_with fail;refine uq [] rfl (by decide +kernel) ?_;rw [← bW,← MV];clear bW ay hwF MV d0 d1 d2 d3 g0 g1 g2 g3 z0 z1 z2 z3 y0 y1 y2 y3;have hS:ae [] wE wE:=ae.refl _ _
        repeat ((with_reducible refine gX ?_);(first|refine aL ?_|refine sK ?_|refine sM fun _ _=>?_|refine sL fun _ _=>?_|refine sE fun _ _=>?_);go_wp2_with fail)
        refine qU rfl rfl rfl rfl kY.out ?_;cases hd:L.ak m.name s.name with
        | none=>
         rw [hd] at IL;have HKN:=zh (show (old.vars.any fun h=>h.name == s.name && h.len == s.len)=false by
          cases hq : (old.vars.any fun h=>h.name == s.name && h.len == s.len) with
          | false=>rfl
          | true=>
           obtain⟨l,hl,_⟩:=MP HI.out HOLD.out hq;rw [IL.out] at hl;cases hl)
         simp only [Option.map_none,Option.getD_none];clear hd;go_wp2_with fail
         repeat ((with_reducible refine gX ?_);(first|refine aL ?_|refine sK ?_|refine sM fun _ _=>?_|refine sL fun _ _=>?_|refine sE fun _ _=>?_);go_wp2_with fail)
         refine⟨⟨k + 1,by go_num,by omega,?_,UY.out⟩,by simp [intOf];omega⟩;rw [zn HS.out,UL HKN.out];exact HV.out.kept fK.out (by simp)
        | some x=>
         obtain⟨ao,ko⟩:=x;rw [hd] at IL;simp only [Option.map_some,Option.getD_some];clear hd;have HCG:=zh (adO 55 (fun _ _=>rfl) old.vars (by have:=(HI.out.ok.good m.name old HOLD.out).1.wf.qK;omega) (fun x=>x.name == s.name && x.len == s.len) (ptr b15) _ _ wE ae3.out (fun x hx w' hc=>adP s x b15 w' (UX.out.kept hc (by simp))));go_wp2_with fail
         repeat ((with_reducible refine gX ?_);(first|refine aL ?_|refine sK ?_|refine sM fun _ _=>?_|refine sL fun _ _=>?_|refine sE fun _ _=>?_);go_wp2_with fail)
         refine HCG.out.mono ?_;rintro _ w8 ⟨rfl,hc8⟩;have fO:=zh hc8;have MZ:=zh (UY.out.then hc8);have f0':=(UX.out.kept hc8 (by simp)).cell 0 _ rfl;clear hS f0 n5 n2 hc8;cases hq : (old.vars.any fun x=>x.name == s.name && x.len == s.len) with
         | false=>
          have HQ:=zh hq;clear hq;go_wp2_with fail;refine⟨⟨k + 1,by go_num,by omega,?_,MZ.out⟩,by simp [intOf];omega⟩;rw [zn HS.out,UL HQ.out];exact(HV.out.kept fK.out (by simp)).kept fO.out (by simp)
         | true=>
          obtain⟨y,hy,hyl⟩:=aeF HI.out HOLD.out aeS.out (List.mem_of_getElem? HS.out) (l:=m.vars.take k) (fun x hx=>List.mem_of_mem_take hx);obtain⟨x,hx,hxl⟩:=MP HI.out HOLD.out hq;have BL:=(HV.out.kept fK.out (by simp)).kept fO.out (by simp);obtain⟨esn,hme,hde⟩:=BL.map;have hin:=BL.is s.name;cases hdn : ak s.name with
          | none=>rw [hdn,hy] at hin;cases hin
          | some z=>
           obtain⟨an,kn⟩:=z;rw [hdn] at hin;obtain⟨l',hl',hll,hbn⟩:=hin;rw [hy] at hl';cases hl'
           obtain⟨lo',U4,U5,uR⟩:=IL.out;rw [hx] at U4;cases U4
           have hko : ko=x.length:=U5.symm;have hkn : kn=x.length:=by rw [hxl];exact hll.symm.trans hyl
           subst hko;have BM:=zh (show (Instr.lookup 99 (.map (some bv)) (str s.name) false).run Tryz.prog w8 = .ok (.slice (some ⟨an,0,none⟩) x.length x.length) w8 by
            have hl:=jX (P:=Tryz.prog) Tryz.underlying99 Tryz.underlying9 (Gt w8) hme s.name;rw [hde,hdn,hkn] at hl;exact hl)
           have hlv:=BM.out;obtain⟨w9,hcp,bR,aW⟩:=aeK 3 (uR.kept (qQ.out.then MZ.out) (by simp)) hbn (by simp [hyl,hxl]);have dH:=zh aW;have dh:=zh bR;have HQ:=zh hq;have HX:=zh hx;have HDN:=zh (show ak s.name=some (an,x.length) by rw [hdn,hkn]);have HV8:=zh BL;have HAN:=zh (show wL.heap.size≤an from(BL.low (BL.arr hdn).1).1);clear hq hy hyl hx hxl BL hme hde hdn hll hbn U5 uR hkn aW bR BM;go_wp2_with fail;refine⟨⟨k + 1,by go_num,by omega,?_,MZ.out.trans dh.out (fun x hx=>.inr (by have:=HAN.out;simp at hx;omega))⟩,by simp [intOf];omega⟩;rw [zn HS.out,aeD HQ.out HX.out];exact HV8.out.put HDN.out dh.out rfl dH.out
       ·have hkn : k=m.vars.length:=by omega
        have U6:=zh (show qp wr wL.heap.size bv (nC W.vs old m m.name) ak au by
         have:=HV.out
         rwa [List.take_of_length_le (by omega),aeE] at this)
        have M0:=zh (qQ.out.then HC.out);obtain⟨_,_,aio,cio,UZ,U0,apo,cpo,abo,cbo,bvq,eso,hp3,_⟩:=MR.out.kept M0.out (by simp);have h3:=xX.out.kept (aeT.out.then HC.out) (by simp);have q0:=h3.cell 0 _ rfl;have q1:=h3.cell 1 _ rfl;have q2:=h3.cell 2 _ rfl;have q3:=h3.cell 3 _ rfl;have q4:=h3.cell 4 _ rfl;have z0:=hp3.cell 0 _ rfl;have z1:=hp3.cell 1 _ rfl;have z2:=hp3.cell 2 _ rfl;have z3:=hp3.cell 3 _ rfl;have z4:=hp3.cell 4 _ rfl;have z5:=hp3.cell 5 _ rfl;have y0:=hp3.frozen 0;have y1:=hp3.frozen 1;have y2:=hp3.frozen 2;have y3:=hp3.frozen 3;have y4:=hp3.frozen 4;have y5:=hp3.frozen 5;obtain⟨wS,iY,fJ,hbS⟩:=aeL (str m.name) (.slice ai m.imports.length ci) (.slice av m.vars.length cv) (.slice ap m.procs.length cp) (.slice ab m.body.len cb) (.map (some bv)) hp3;have jw:=zh fJ;have jf:=zh hbS;clear h3 hp3 fJ hbS;go_wp2_with fail;go_ret
        rw [← HR.out];have hwr:=M0.out.size;have hwl:=qQ.out.size;have hpo:Own (L.pb m.name):=by
         have hqq:=fD.out.2.2.2.2.2.2 m.name;rw [HOLD.out] at hqq;exact hqq.2.1
        have hpl:L.pb m.name < w.heap.size:=H.out.lt _ (.inl hpo);have fJ:ae [L.pb m.name] w wS:=(M0.out.weak).then jw.out
        have ai1:=Em.out;have EF:=U6.out.kept jw.out (fun x hx=>by
         simp only [List.mem_singleton] at hx;subst hx;refine⟨by omega,fun hm=>?_⟩;have:=(U6.out.low hm).1;omega)
        have ae9:qp wS w.heap.size bv (nC W.vs old m m.name) ak au:=⟨EF.map,EF.inj,EF.arr,fun ha=>by obtain⟨h1,h2,h3⟩:=EF.low ha;exact⟨by omega,h2,h3⟩,EF.is⟩;have hgl:=fun x hx=>(je.out x hx)
        refine⟨_,rfl,rfl,⟨.inl H.out.own,fun x hx=>?_,fun x hx hx2=>?_,fun q mq hq=>?_,H.out.few,.inr ⟨_,Has.swap kQ.out (fun x hx=>⟨H.out.zF x hx,fun hg=>(hgl x hg).2 hx⟩) (fun x hx=>?_) (Nat.le_refl _) HOLD.out gW.out.few fD.out fJ jf.out (HM.out.kept fJ (fun x hx hg=>?_)) ae9 (by omega) (fun x hx=>.inl hx) (fun x h1 h2=>.inr ⟨h1,h2⟩)⟩⟩,⟨_,fJ,fun x hx=>by simp only [List.mem_singleton] at hx;subst hx;exact hpo⟩⟩
        ·have hs:=fJ.size
         rcases hx with(hx|hx)|(hx|hx)
         ·have:=H.out.lt x (.inl hx);omega
         ·exact hx.2
         ·have:=H.out.lt x (.inr hx);omega
         ·have:=(hgl x hx).1;omega
        ·rcases hx with hx|hx <;> rcases hx2 with h2|h2
         ·exact H.out.zF x hx h2
         ·exact(hgl x h2).2 hx
         ·have:=H.out.lt x (.inr h2);omega
         ·have:=(hgl x h2).1;omega
        ·simp only [bI] at hq
         split at hq
         ·next e=>cases hq;exact⟨gW.out,e.symm⟩
         ·exact H.out.good q mq hq
        ·rcases hx with hx|hx|hx
         ·exact H.out.lt x (.inl hx)
         ·exact H.out.lt x (.inr hx)
         ·exact(hgl x hx).1
        ·simp only [List.mem_singleton] at hx
         subst hx;exact(hgl _ hg).2 hpo
end Go.Proofs.YtechofppmnnomaaGreatDoor
namespace Go.Mq.Run
open Go Go.RowKit Go.Mq Go.Mq.Tree Go.Mq.Sym
open Go.Mq.Check (check Out)
def U7:Out→Bool
 | .fine=>true
 | _=>false
theorem ae' : (match parse [109,111,100,117,108,101,32,109,59,32,118,97,114,32,120,58,32,105,110,116,59,32,112,114,111,99,32,102,42,40,97,41,59,32,98,101,103,105,110,32,120,32,58,61,32,120,32,43,32,97,59,32,114,101,116,117,114,110,32,120,32,42,32,50,59,32,101,110,100,59,32,98,101,103,105,110,32,119,114,105,116,101,32,102,40,51,41,59,32,101,110,100,46] with
  | .ok m=>match jG 30 Wd.zero m 100 with
   | some r=>r.2.1 == 1 && r.2.2.1 == [6] && U7 r.2.2.2 && match kr 30 r.1 [109] [102] [4] 100 with
    | some c=>c.2.1 == 1 && c.2.2.2.1 == 14 && U7 c.2.2.2.2
    | none=>false
   | none=>false
  | .bad _ _=>false)=true:=by
 decide +kernel
theorem afa : ∃ m,parse [109,111,100,117,108,101,32,109,59,32,118,97,114,32,120,58,32,105,110,116,59,32,112,114,111,99,32,102,42,40,97,41,59,32,98,101,103,105,110,32,120,32,58,61,32,120,32,43,32,97,59,32,114,101,116,117,114,110,32,120,32,42,32,50,59,32,101,110,100,59,32,98,101,103,105,110,32,119,114,105,116,101,32,102,40,51,41,59,32,101,110,100,46] = .ok m ∧ ∃ W1 W2 out,jG 30 Wd.zero m 100=some (W1,1,[6],.fine)∧kr 30 W1 [109] [102] [4] 100=some (W2,1,out,14,.fine):=by
 have h:=ae';split at h
 ·rename_i m hm
  refine⟨m,hm,?_⟩;split at h
  ·rename_i r hr
   obtain⟨W1,way,out,o⟩:=r;simp only [Bool.and_eq_true,beq_iff_eq] at h;obtain⟨⟨⟨rfl,rfl⟩,ho⟩,h⟩:=h;split at h
   ·rename_i c hc
    obtain⟨W2,ai2,afb,n,o2⟩:=c;simp only [Bool.and_eq_true,beq_iff_eq] at h;obtain⟨⟨rfl,rfl⟩,ho2⟩:=h;refine⟨W1,W2,afb,?_,?_⟩
    ·cases o with
     | fine=>exact hr
     | plain e=>cases ho
     | at_ e p=>cases ho
    ·cases o2 with
     | fine=>exact hc
     | plain e=>cases ho2
     | at_ e p=>cases ho2
   ·cases h
  ·cases h
 ·cases h
theorem dP.new {w:World} {bw:Nat} (h:ag w bw #[.map none,ah] 40):dP w (fun x=>x=bw) (fun _=>False) bw Wd.zero:=
 ⟨rfl,fun x hx=>by rcases hx with rfl|hx;exact h.lt;exact hx.elim,fun _ _ h=>h,fun _ _ h=>(by cases h),by simp [Wd.zero],.inl ⟨rfl,h⟩⟩
theorem uh.new {w w1 w2:World} {Own:Nat→Prop} (h:uh Own w1 w2) (hc:ae [] w w1) (hO : ∀ x,Own x→w.heap.size≤x):ae [] w w2:=by
 obtain⟨Z,hz,hZ⟩:=h;exact hc.trans hz (fun x hx=>.inr (hO x (hZ x hx)))
end Go.Mq.Run
namespace Go.Proofs.YtechofppmnnomaaGreatDoor
open Go Go.RowKit Go.Mq Go.Mq.Tree Go.Mq.Sym Go.Mq.Run
open Go.Mq.Check (check Out)
set_option maxRecDepth 100000
set_option maxHeartbeats 4000000
theorem afc (w:World) (B:Nat) (hL:Laid w B):Calls Tryz.prog 9 #[] w (Holds w):=by
 obtain⟨m,hm,W1,W2,out,hl,hcl⟩:=afa;have hgood:=zD (t:=[109,111,100,117,108,101,32,109,59,32,118,97,114,32,120,58,32,105,110,116,59,32,112,114,111,99,32,102,42,40,97,41,59,32,98,101,103,105,110,32,120,32,58,61,32,120,32,43,32,97,59,32,114,101,116,117,114,110,32,120,32,42,32,50,59,32,101,110,100,59,32,98,101,103,105,110,32,119,114,105,116,101,32,102,40,51,41,59,32,101,110,100,46]) (by decide) hm;have hP:=Ao [109,111,100,117,108,101,32,109,59,32,118,97,114,32,120,58,32,105,110,116,59,32,112,114,111,99,32,102,42,40,97,41,59,32,98,101,103,105,110,32,120,32,58,61,32,120,32,43,32,97,59,32,114,101,116,117,114,110,32,120,32,42,32,50,59,32,101,110,100,59,32,98,101,103,105,110,32,119,114,105,116,101,32,102,40,51,41,59,32,101,110,100,46] (by decide) w B hL;rw [hm] at hP;have HP:=zh hP;have yU:=zh hl;have cB:=zh hcl;have gW:=zh hgood;clear hP hm hl hcl hL hgood
 go_enter Tryz.func9,Tryz.ntmps9
 go_wp2_with fail;refine HP.out.mono ?_;rintro _ w1 ⟨hc1,v,rfl,hmod⟩;have jO:=zh hmod;obtain⟨BN,BO,BP,BR,BS,BU,BV,BX,rfl,hgv,hpv⟩:=Gb hmod;have hz:=ag.new w1 #[str [],ah,ah,ah,ah] 32;obtain⟨wA,ay⟩ : ∃ w',w1.alloc (.cells #[str [],ah,ah,ah,ah] 32)=w':=⟨_,rfl⟩
 rw [ay] at hz;have hcA:ae [] w1 wA:=by rw [← ay];exact(ae.refl _ _).alloc _
 obtain⟨wF,hwF,aZ,aG⟩:=sZ (str m.name) (.slice BN m.imports.length BO) (.slice BP m.vars.length BR) (.slice BS m.procs.length BU) (.slice BV m.body.len BX) hz;have gI:ae [] w1 wF:=hcA.trans aZ (fun x hx=>.inr (by simp at hx;omega));have z0:=hz.cell 0 _ rfl;have z1:=hz.cell 1 _ rfl;have z2:=hz.cell 2 _ rfl;have z3:=hz.cell 3 _ rfl;have z4:=hz.cell 4 _ rfl;have y0:=hz.frozen 0;have y1:=hz.frozen 1;have y2:=hz.frozen 2;have y3:=hz.frozen 3;have y4:=hz.frozen 4;obtain⟨wW,xZ⟩ : ∃ x,wF.alloc (.cells #[.map none,ah] 40)=x:=⟨_,rfl⟩
 have hbW:ag wW wF.heap.size #[.map none,ah] 40:=by rw [← xZ];exact ag.new wF _ _
 have hcW:ae [] wF wW:=by rw [← xZ];exact(ae.refl _ _).alloc _
 have hsW : wW.heap.size=wF.heap.size + 1:=by rw [← xZ];simp
 have U8:ae [] w wW:=hc1.then (gI.then hcW)
 have hx:=aG.kept hcW (by simp);have x0:=hx.cell 0 _ rfl;have x1:=hx.cell 1 _ rfl;have x2:=hx.cell 2 _ rfl;have x3:=hx.cell 3 _ rfl;have x4:=hx.cell 4 _ rfl;have U9:kG wW (New w w1) m (.agg #[str m.name,.slice BN m.imports.length BO,.slice BP m.vars.length BR,.slice BS m.procs.length BU,.slice BV m.body.len BX]):=(jO.out.kept (gI.then hcW) (by simp)).mono (fun x hx=>hx);have hs1:=hc1.size;have hsG:=gI.size;have M3:=zh (LK 30 (dP.new hbW) U9 (fun x hx=>⟨by have:=hx.2;omega,fun e=>by have:=hx.2;omega⟩) gW.out (by decide : (100:Nat)≤9223372036854775807) yU.out);have aB:=zh U8;have vP:=zh (show w.heap.size≤wF.heap.size∧wW.heap.size=wF.heap.size + 1 by omega);clear hc1 hz hcA aZ aG gI hbW hcW hsW U8 U9 hs1 hsG hx hmod hgv hpv;go_wp2_with fail;clear ay hwF xZ z0 z1 z2 z3 z4 y0 y1 y2 y3 y4 x0 x1 x2 x3 x4;refine M3.out.mono ?_;rintro _ w2 ⟨ve,vo,rfl,hev,jQ,l5,hch⟩;obtain⟨ov,rfl,hov,_⟩:=hev;obtain⟨ea,ec,rfl⟩:=gq hov;simp only [qi] at jQ;subst jQ;have Va:ae [] w w2:=hch.new aB.out (fun x hx=>by have:=vP.out;omega);obtain⟨wI,M4⟩ : ∃ x,w2.alloc (.cells #[num 0,ah] 43)=x:=⟨_,rfl⟩
 have ku:ag wI w2.heap.size #[num 0,ah] 43:=by rw [← M4];exact ag.new w2 _ _
 have hcI:ae [] w2 wI:=by rw [← M4];exact(ae.refl _ _).alloc _
 have i0:=ku.cell 0 _ rfl;have i1:=ku.cell 1 _ rfl;have j0:=ku.frozen 0;have j1:=ku.frozen 1;obtain⟨wJ,hwJ,IM,hcJ⟩:=mG 1 (.slice ea 1 ec) ku;have Vb:ae [] w2 wJ:=hcI.trans hcJ (fun x hx=>.inr (by simp at hx;omega));have k0:=IM.cell 0 _ rfl;have k1:=IM.cell 1 _ rfl;obtain⟨wK,xE⟩ : ∃ x,wJ.alloc (.cells #[num 6] bN)=x:=⟨_,rfl⟩
 have Vd:ag wK wJ.heap.size #[num 6] bN:=by rw [← xE];exact ag.new wJ _ _
 have hcK:ae [] wJ wK:=by rw [← xE];exact(ae.refl _ _).alloc _
 have M5:ae [] w2 wK:=Vb.then hcK
 have HEQ:=zh (show Calls Tryz.prog 18 #[.slice ea 1 ec,.slice (some ⟨wJ.heap.size,0,none⟩) 1 1] wK (fun e w'=>e = .returned (.bool true)∧ae [] wK w') from by
  obtain⟨a',c',he,_,hr⟩:=Row.jU (F:=fun _=>True) hov (fun _ _=>trivial);cases he
  exact TW [6] [6] (by decide) (by decide) _ _ _ 1 (fun _=>True) (fun _=>True) wK (hr.kept M5 (by simp)) ⟨fun _=>⟨_,0,rfl,fun i x hx=>by rw [Nat.zero_add];exact Vd.cell i x (by simpa using hx)⟩,fun _ _ _=>trivial⟩)
 have vQ:=zh l5;have M6:=zh Va;have Ve:=zh M5;have DD:=zh (IM.kept hcK (by simp));clear hov hch l5 Va ku hcI IM hcJ Vb Vd hcK M5;go_wp2_with fail;refine HEQ.out.mono ?_;rintro _ w5 ⟨rfl,bH⟩;clear M4 hwJ xE i0 i1 j0 j1 k0 k1;obtain⟨wL,zy⟩ : ∃ x,w5.alloc (.cells #[num 4] bN)=x:=⟨_,rfl⟩
 have hbL:ag wL w5.heap.size #[num 4] bN:=by rw [← zy];exact ag.new w5 _ _
 have M7:ae [] w5 wL:=by rw [← zy];exact(ae.refl _ _).alloc _
 have M8:ae [] w2 wL:=Ve.out.then (bH.then M7)
 have hs5 : w2.heap.size≤w5.heap.size:=(Ve.out.then bH).size;have hsL:=hbL.lt;have HWC:=zh (show Calls Tryz.prog 31 #[ptr wF.heap.size,.string ⟨#[109]⟩,.string ⟨#[102]⟩,.slice (some ⟨w5.heap.size,0,none⟩) 1 1,num 100] wL _ from
  TP 30 (q:=[109]) (n:=[102]) (args:=[4]) (fuel:=100) (a:=some ⟨w5.heap.size,0,none⟩) (c:=1) (vQ.out.kept M8 (by simp)) (Ga:=fun x=>x=w5.heap.size) ⟨fun _=>⟨_,0,rfl,fun i x hx=>by rw [Nat.zero_add];exact hbL.cell i x (by simpa using hx)⟩,fun _ p hp=>by cases hp;rfl⟩ (fun x hx=>⟨by omega,fun ho=>by
   rcases ho with e|e
   ·have:=vP.out;have:=M6.out.size;have:=vQ.out.lt _ (.inl (.inl rfl));omega
   ·omega⟩) (by decide) (by decide) cB.out)
 have hbe:=DD.out.kept (bH.then M7) (by simp);have iq:=zh hbe;have HL2:=zh M8;clear bH hbL M7 M8 hs5 hsL hbe;go_wp2_with fail;refine HWC.out.mono ?_;rintro _ w9 ⟨ve,vo,rfl,hev,jQ,l5,hch⟩;obtain⟨ov,rfl,hov,_⟩:=hev;obtain⟨fa,fc,rfl⟩:=gq hov;simp only [qi] at jQ;subst jQ;clear zy;have iW:ag w9 w2.heap.size #[num 1,.slice ea 1 ec] 43:=by
  obtain⟨Z,hz,hZ⟩:=hch;refine iq.out.kept hz (fun hm=>?_);rcases hZ _ hm with e|e
  ·have:=vP.out;have:=vQ.out.lt _ (.inl (.inl rfl));omega
  ·omega
 have i0:=iW.cell 0 _ rfl;have i1:=iW.cell 1 _ rfl;have j0:=iW.frozen 0;have j1:=iW.frozen 1;obtain⟨wS,iY,hbS,fJ⟩:=mG 1 (.slice fa out.length fc) iW;have k0:=hbS.cell 0 _ rfl;have k1:=hbS.cell 1 _ rfl;have Jz:=zh (show ae [] w wS from(hch.new (M6.out.then HL2.out) (fun x hx=>by
  rcases hx with e|e
  ·have:=vP.out;omega
  ·have:=vP.out;omega)).trans fJ (fun x hx=>.inr (by simp at hx;have:=M6.out.size;omega)))
 clear iW hbS fJ hov l5 hch;simp only;go_wp2_with fail;go_ret
 exact⟨rfl,Jz.out⟩
end Go.Proofs.YtechofppmnnomaaGreatDoor
namespace Go.Proofs.YtechofppmnnomaaGreatDoor
open Go Go.RowKit Go.Mq Go.Mq.Tree Go.Mq.Sym Go.Mq.Run
open Go.Mq.Check (check Out)
set_option maxRecDepth 100000
set_option maxHeartbeats 4000000
theorem Vf {w w':World} {o:Out} {v:Value} {Z:List Nat} (h:qi w o v) (hc:ae Z w w') (hZ : ∀ x∈Z,∃ a b t,ag w x #[.map a,b] t):qi w' o v:=by
 cases o with
 | fine=>exact h
 | plain n=>exact h
 | at_ en p=>
  obtain⟨b,h1,h2⟩:=h;refine⟨b,h1,h2.kept hc fun hm=>?_⟩;obtain⟨x,y,t,hb⟩:=hZ b hm
  unfold ag at h2 hb
  rw [hb] at h2;simp at h2
end Go.Proofs.YtechofppmnnomaaGreatDoor
namespace Go.Proofs.YtechofppmnnomaaGreatDoor
open Go Go.RowKit Go.Mq Go.Mq.Tree Go.Mq.Sym Go.Mq.Run
open Go.Mq.Check (check Out)
set_option maxRecDepth 100000
set_option maxHeartbeats 4000000
def EG (w:World) (Own G:Nat→Prop) (bw:Nat) (r:Wd × Nat × List Int × Int × Int) (e:Ending) (w':World):Prop:=
 ∃ (ve:Value) (Own' G':Nat→Prop),e = .returned (.tuple #[ve,num r.2.2.2.1,num r.2.2.2.2])∧DW w' w.heap.size r.2.1 r.2.2.1 ve∧dP w' Own' G' bw r.1∧(∀ x,Own' x→Own x∨w.heap.size≤x)∧(∀ x,G' x→G x∨w.heap.size≤x)∧uh Own w w'
theorem afi {w:World} {Own G F:Nat→Prop} {bw:Nat} {W:Wd} {x:Ac} {g fuel:Nat} {r:Wd × Nat × List Int × Int × Out} (h:dP w Own G bw W) (hE:kL w) (mJ : ¬ Own 0) (ha:Row w F x.ad (ints x.args)) (hF : ∀ y,F y→y < w.heap.size∧¬ Own y) (h10 : x.args.length≤10) (hfu : fuel≤1000000) (hw : x.what=1) (hr : kr g W x.name x.proc x.args fuel=some r) :
  Calls Tryz.prog 23 #[ptr bw,.agg #[num x.what,str x.text,str x.name,str x.proc,.slice x.ad x.args.length x.cap],num fuel] w (EG w Own G bw (r.1,r.2.1,r.2.2.1,r.2.2.2.1,q8 r.2.2.2.2)):=by
 rw [hw];obtain⟨w4,hw4⟩ : ∃ y,w.alloc (.cells #[num 1,str x.text,str x.name,str x.proc,.slice x.ad x.args.length x.cap] 57)=y:=⟨_,rfl⟩
 have hb4:ag w4 w.heap.size #[num 1,str x.text,str x.name,str x.proc,.slice x.ad x.args.length x.cap] 57:=by rw [← hw4];exact ag.new w _ _
 have hc4:ae [] w w4:=by rw [← hw4];exact(ae.refl _ _).alloc _
 have hs4 : w4.heap.size=w.heap.size + 1:=by rw [← hw4];simp
 obtain⟨w6,iG⟩ : ∃ y,w4.alloc (.cells #[num 0,ah] 43)=y:=⟨_,rfl⟩
 have hb6:ag w6 w4.heap.size #[num 0,ah] 43:=by rw [← iG];exact ag.new w4 _ _
 have hc6:ae [] w4 w6:=by rw [← iG];exact(ae.refl _ _).alloc _
 have hs6 : w6.heap.size=w4.heap.size + 1:=by rw [← iG];simp
 have lG:=hb4.kept hc6 (by simp);have x0:=lG.cell 0 _ rfl;have x2:=lG.cell 2 _ rfl;have x3:=lG.cell 3 _ rfl;have x4:=lG.cell 4 _ rfl;have hcw:=hc4.then hc6
 have r9:=zh (TP g (a:=x.ad) (c:=x.cap) (h.kept hcw (by simp)) (Ga:=F) (ha.kept hcw (by simp)) (fun y hy=>⟨by have:=(hF y hy).1;omega,(hF y hy).2⟩) (by omega) (by omega) hr);have lY:=zh hb6;have bD:=zh hcw;have jF:=zh (show w4.heap.size=w.heap.size + 1∧w6.heap.size=w.heap.size + 2 by omega);have H:=zh h;have sN:=zh (hE.kept hcw (by simp));have qj:=zh mJ;clear h ha hF hb4 hc4 hs4 hb6 hc6 hs6 lG hcw hr hE mJ
 go_enter Tryz.func23,Tryz.ntmps23
 go_wp2_with fail;refine r9.out.mono ?_;rintro _ w7 ⟨ve,vo,rfl,hev,jQ,l5,hch⟩;obtain⟨ov,rfl,hov,hof⟩:=hev;obtain⟨ea,ec,rfl⟩:=gq hov;obtain⟨Z,hz,hZ⟩:=hch;have hlt:=fun y (hy:Own y)=>H.out.lt y (.inl hy)
 have EH:=lY.out.kept hz (fun hm=>by have:=hlt _ (hZ _ hm);have:=jF.out;omega);obtain⟨w8,hw8⟩ : ∃ y,w7.alloc (.cells #[num 0,ah] 43)=y:=⟨_,rfl⟩
 have eD:ag w8 w7.heap.size #[num 0,ah] 43:=by rw [← hw8];exact ag.new w7 _ _
 have hc8:ae [] w7 w8:=by rw [← hw8];exact(ae.refl _ _).alloc _
 have i0:=eD.cell 0 _ rfl;have i1:=eD.cell 1 _ rfl;have j0:=eD.frozen 0;have j1:=eD.frozen 1;obtain⟨w9,EI,aW,bR⟩:=mG r.2.1 (.slice ea r.2.2.1.length ec) eD;have EJ:ae [] w7 w9:=hc8.trans bR (fun x hx=>.inr (by simp at hx;omega));obtain⟨wE,bW⟩ : ∃ y,y=w9.drew:=⟨_,rfl⟩
 have zW:ae [] w9 wE:=by rw [bW];exact(ae.refl [] w9).drew
 have sO:=EJ.then zW
 have zX:=aW.kept zW (by simp);have k0:=zX.cell 0 _ rfl;have k1:=zX.cell 1 _ rfl;have hne : w7.heap.size≠w4.heap.size:=by have:=hz.size;have:=jF.out;omega
 have cZ:=zh hne;have Z1:=zh (bX.of (X:=[w4.heap.size]) (w0:=wE) k0 (by simpa using hne));have Z2:=zh (bX.of (X:=[w4.heap.size]) (w0:=wE) k1 (by simpa using hne));have EK:=((sN.out.kept hz (fun hm=>qj.out (hZ _ hm))).kept sO (by simp));have HT:=zh (Iq EK (Vf jQ sO (fun x hx=>by cases hx)));have EL:=zh (EH.kept sO (by simp));have HZ:=zh hZ;have EM:=zh hz;have EN:=zh sO;have xP:=zh hov;have nQ:=zh hof;have vQ:=zh l5;clear hz hZ hlt EH eD hc8 aW bR EJ zW sO zX EK jQ l5 hov hof hne;go_wp2_with fail;refine uq [w4.heap.size] rfl (by decide +kernel) ?_;rw [← bW];clear hw4 iG hw8 EI bW i0 i1 j0 j1 x0 x2 x3 x4;have hS:ae [w4.heap.size] wE wE:=ae.refl _ _
 repeat ((with_reducible refine gX ?_);(first|refine aL ?_|refine sK ?_|refine sM fun _ _=>?_|refine sL (hz:=by first|exact Z1.out|exact Z2.out) fun _ _=>?_|refine sE fun _ _=>?_);go_wp2_with fail)
 refine HT.out.mono ?_;rintro _ wT ⟨rfl,jr⟩;have fw:=zh jr;clear jr hS;have iH:=EL.out.kept fw.out (by simp);have z0:=iH.cell 0 _ rfl;have z1:=iH.cell 1 _ rfl;have y0:=iH.frozen 0;have y1:=iH.frozen 1;obtain⟨wS,iY,hbS,fJ⟩:=mG r.2.1 (.slice ea r.2.2.1.length ec) iH;have jf:=zh hbS;have jw:=zh fJ;clear iH hbS fJ;go_wp2_with fail;refine And.intro fw.out.weak ?_;have hS:ae [w4.heap.size] wE wT:=fw.out.weak
 repeat ((with_reducible refine gX ?_);(first|refine aL ?_|refine sK ?_|refine sM fun _ _=>?_|refine sL (hz:=by first|exact Z1.out|exact Z2.out) fun _ _=>?_|refine sE fun _ _=>?_);go_wp2_with fail)
 clear hS iY;refine And.intro (fw.out.weak.then jw.out) ?_;have hS:ae [w4.heap.size] wE wS:=fw.out.weak.then jw.out
 have q0:=jf.out.cell 0 _ rfl;have q1:=jf.out.cell 1 _ rfl
 repeat ((with_reducible refine gX ?_);(first|refine aL ?_|refine sK ?_|refine sM fun _ _=>?_|refine sL (hz:=by first|exact Z1.out|exact Z2.out) fun _ _=>?_|refine sE fun _ _=>?_);go_wp2_with fail)
 go_wp2_with fail;refine bodyPost_ret (v:=.tuple #[.agg #[num r.2.1,.slice ea r.2.2.1.length ec],num r.2.2.2.1,num (q8 r.2.2.2.2)]) (by simp [results,Tryz.results23,go_sem,q0,q1]) rfl ?_;have hsz:=jF.out;have sP:ae [w4.heap.size] w7 wS:=(EN.out.weak.then fw.out.weak).then jw.out
 refine⟨_,More Own w6 w7,G,rfl,⟨_,rfl,cK xP.out sP (fun y hy hm=>?_),fun y hy=>?_⟩,vQ.out.kept sP (fun y hy=>?_),fun y hy=>?_,fun y hy=>.inl hy,Z,((bD.out.weak.then EM.out).then EN.out.weak).trans (fw.out.weak.then jw.out) (fun y hy=>.inr ?_),HZ.out⟩
 ·simp only [List.mem_singleton] at hm
  have:=nQ.out y hy;omega
 ·have:=nQ.out y hy
  omega
 ·simp only [List.mem_singleton] at hy
  subst hy;refine⟨fun ho=>?_,fun hg=>?_⟩
  ·rcases ho with ho|ho
   ·have:=H.out.lt _ (.inl ho);omega
   ·omega
  ·have:=H.out.lt _ (.inr hg);omega
 ·rcases hy with hy|hy
  ·exact .inl hy
  ·exact .inr (by omega)
 ·simp only [List.mem_singleton] at hy
  omega
end Go.Proofs.YtechofppmnnomaaGreatDoor
namespace Go.Proofs.YtechofppmnnomaaGreatDoor
open Go Go.RowKit Go.Mq Go.Mq.Tree Go.Mq.Sym Go.Mq.Run
open Go.Mq.Check (check Out)
set_option maxRecDepth 100000
set_option maxHeartbeats 4000000
theorem afj {w:World} {Own G:Nat→Prop} {bw B fuel en p:Nat} {W:Wd} {x:Ac} (h:dP w Own G bw W) (hL:Laid w B) (hE:kL w) (hw : x.what≠1) (ht : x.text.length≤1000) (hp : parse x.text = .bad en p) :
  Calls Tryz.prog 23 #[ptr bw,.agg #[num x.what,str x.text,str x.name,str x.proc,.slice x.ad x.args.length x.cap],num fuel] w (EG w Own G bw (W,0,[],0,en)):=by
 obtain⟨wh,EO⟩ : ∃ y,y=x.what:=⟨_,rfl⟩
 rw [← EO] at hw ⊢;have hq : (wh == 1)=false:=by simpa using hw
 obtain⟨w4,hw4⟩ : ∃ y,w.alloc (.cells #[num wh,str x.text,str x.name,str x.proc,.slice x.ad x.args.length x.cap] 57)=y:=⟨_,rfl⟩
 have hb4:ag w4 w.heap.size #[num wh,str x.text,str x.name,str x.proc,.slice x.ad x.args.length x.cap] 57:=by rw [← hw4];exact ag.new w _ _
 have hc4:ae [] w w4:=by rw [← hw4];exact(ae.refl _ _).alloc _
 have hs4 : w4.heap.size=w.heap.size + 1:=by rw [← hw4];simp
 obtain⟨w6,iG⟩ : ∃ y,w4.alloc (.cells #[num 0,ah] 43)=y:=⟨_,rfl⟩
 have hb6:ag w6 w4.heap.size #[num 0,ah] 43:=by rw [← iG];exact ag.new w4 _ _
 have hc6:ae [] w4 w6:=by rw [← iG];exact(ae.refl _ _).alloc _
 have hs6 : w6.heap.size=w4.heap.size + 1:=by rw [← iG];simp
 have lG:=hb4.kept hc6 (by simp);have x0:=lG.cell 0 _ rfl;have x1:=lG.cell 1 _ rfl;have hcw:=hc4.then hc6
 have hP:=Ao x.text (by omega) w6 B (hL.kept hcw (by simp));rw [hp] at hP;have HP:=zh hP;have lY:=zh hb6;have bD:=zh hcw;have jF:=zh (show w4.heap.size=w.heap.size + 1∧w6.heap.size=w.heap.size + 2 by omega);have H:=zh h;have sN:=zh (hE.kept hcw (by simp));clear h hb4 hc4 hs4 hb6 hc6 hs6 lG hcw hE hL hP hp hw EO
 go_enter Tryz.func23,Tryz.ntmps23
 go_wp2_with fail;refine HP.out.mono ?_;rintro _ w1 ⟨hc1,b,rfl,_,hbe⟩;have cB:=zh hc1;have hz:=ag.new w1 #[str [],ah,ah,ah,ah] 32;obtain⟨wA,ay⟩ : ∃ w',w1.alloc (.cells #[str [],ah,ah,ah,ah] 32)=w':=⟨_,rfl⟩
 rw [ay] at hz;have hcA:ae [] w1 wA:=by rw [← ay];exact(ae.refl _ _).alloc _
 obtain⟨wF,hwF,aZ,aG⟩:=sZ (str []) (ah) (ah) (ah) (ah) hz;have aO:ae [] w1 wF:=hcA.trans aZ (fun x hx=>.inr (by simp at hx;omega));have HCa:=zh aO;have z0:=hz.cell 0 _ rfl;have z1:=hz.cell 1 _ rfl;have z2:=hz.cell 2 _ rfl;have z3:=hz.cell 3 _ rfl;have z4:=hz.cell 4 _ rfl;have y0:=hz.frozen 0;have y1:=hz.frozen 1;have y2:=hz.frozen 2;have y3:=hz.frozen 3;have y4:=hz.frozen 4;have HT:=zh (Iq (o:=.at_ en p) (v:=.iface 140 (ptr b)) (w:=wF) ((sN.out.kept hc1 (by simp)).kept aO (by simp)) ⟨b,rfl,hbe.kept aO (by simp)⟩);have EP:=zh ((lY.out.kept hc1 (by simp)).kept aO (by simp));clear hcA aZ aG hz hc1 aO hbe;go_wp2_with fail;clear hw4 iG ay hwF z0 z1 z2 z3 z4 y0 y1 y2 y3 y4 x0 x1;refine HT.out.mono ?_;rintro _ wT ⟨rfl,jr⟩;have fw:=zh jr;have iH:=EP.out.kept jr (by simp);have z0:=iH.cell 0 _ rfl;have z1:=iH.cell 1 _ rfl;have y0:=iH.frozen 0;have y1:=iH.frozen 1;obtain⟨wS,iY,hbS,fJ⟩:=mG 0 ah iH;have jf:=zh hbS;have jw:=zh fJ;have q0:=hbS.cell 0 _ rfl;have q1:=hbS.cell 1 _ rfl;clear iH hbS fJ jr;go_wp2_with fail;refine bodyPost_ret (v:=.tuple #[.agg #[num 0,ah],num 0,num en]) (by simp [results,Tryz.results23,go_sem,q0,q1,q8]) rfl ?_;have hsz:=jF.out;have sP:ae [] w wS:=(bD.out.then (cB.out.then (HCa.out.then fw.out))).trans jw.out (fun y hy=>.inr (by simp at hy;omega));exact⟨_,Own,G,rfl,⟨ah,rfl,⟨rfl,.inl ⟨rfl,rfl⟩⟩,From.nil _⟩,H.out.kept sP (by simp),fun y hy=>.inl hy,fun y hy=>.inl hy,.of sP⟩
end Go.Proofs.YtechofppmnnomaaGreatDoor
namespace Go.Proofs.YtechofppmnnomaaGreatDoor
open Go Go.RowKit Go.Mq Go.Mq.Tree Go.Mq.Sym Go.Mq.Run
open Go.Mq.Check (check Out)
set_option maxRecDepth 100000
set_option maxHeartbeats 4000000
theorem afl {w:World} {Own G:Nat→Prop} {bw B fuel:Nat} {W:Wd} {x:Ac} {m:Mod} (h:dP w Own G bw W) (hI:Inv W) (hL:Laid w B) (hE:kL w) (mJ : ¬ Own 0) (hw : x.what=2) (ht : x.text.length≤1000) (hp : parse x.text = .ok m) :
  Calls Tryz.prog 23 #[ptr bw,.agg #[num x.what,str x.text,str x.name,str x.proc,.slice x.ad x.args.length x.cap],num fuel] w (EG w Own G bw ((iE W m).1,0,[],0,q8 (iE W m).2)):=by
 rw [hw];obtain⟨w4,hw4⟩ : ∃ y,w.alloc (.cells #[num 2,str x.text,str x.name,str x.proc,.slice x.ad x.args.length x.cap] 57)=y:=⟨_,rfl⟩
 have hb4:ag w4 w.heap.size #[num 2,str x.text,str x.name,str x.proc,.slice x.ad x.args.length x.cap] 57:=by rw [← hw4];exact ag.new w _ _
 have hc4:ae [] w w4:=by rw [← hw4];exact(ae.refl _ _).alloc _
 have hs4 : w4.heap.size=w.heap.size + 1:=by rw [← hw4];simp
 obtain⟨w6,iG⟩ : ∃ y,w4.alloc (.cells #[num 0,ah] 43)=y:=⟨_,rfl⟩
 have hb6:ag w6 w4.heap.size #[num 0,ah] 43:=by rw [← iG];exact ag.new w4 _ _
 have hc6:ae [] w4 w6:=by rw [← iG];exact(ae.refl _ _).alloc _
 have hs6 : w6.heap.size=w4.heap.size + 1:=by rw [← iG];simp
 have lG:=hb4.kept hc6 (by simp);have x0:=lG.cell 0 _ rfl;have x1:=lG.cell 1 _ rfl;have hcw:=hc4.then hc6
 have hP:=Ao x.text (by omega) w6 B (hL.kept hcw (by simp));rw [hp] at hP;have HP:=zh hP;have gW:=zh (zD (by omega) hp);have sQ:=zh lG;have lY:=zh hb6;have bD:=zh hcw;have jF:=zh (show w4.heap.size=w.heap.size + 1∧w6.heap.size=w.heap.size + 2 by omega);have H:=zh h;have sN:=zh hE;have HL:=zh hL;have HI:=zh hI;have qj:=zh mJ;clear h hb4 hc4 hs4 hb6 hc6 hs6 lG hcw hE hL hP hp hw hI mJ
 go_enter Tryz.func23,Tryz.ntmps23
 go_wp2_with fail;refine HP.out.mono ?_;rintro _ w1 ⟨hc1,v,rfl,hmod⟩;have jO:=zh hmod;obtain⟨BN,BO,BP,BR,BS,BU,BV,BX,rfl,hgv,hpv⟩:=Gb hmod;have hz:=ag.new w1 #[str [],ah,ah,ah,ah] 32;obtain⟨wA,ay⟩ : ∃ w',w1.alloc (.cells #[str [],ah,ah,ah,ah] 32)=w':=⟨_,rfl⟩
 rw [ay] at hz;have hcA:ae [] w1 wA:=by rw [← ay];exact(ae.refl _ _).alloc _
 obtain⟨wF,hwF,aZ,aG⟩:=sZ (str m.name) (.slice BN m.imports.length BO) (.slice BP m.vars.length BR) (.slice BS m.procs.length BU) (.slice BV m.body.len BX) hz;have aO:ae [] w1 wF:=hcA.trans aZ (fun x hx=>.inr (by simp at hx;omega));have z0:=hz.cell 0 _ rfl;have z1:=hz.cell 1 _ rfl;have z2:=hz.cell 2 _ rfl;have z3:=hz.cell 3 _ rfl;have z4:=hz.cell 4 _ rfl;have y0:=hz.frozen 0;have y1:=hz.frozen 1;have y2:=hz.frozen 2;have y3:=hz.frozen 3;have y4:=hz.frozen 4;have u0:=aG.cell 0 _ rfl;have u1:=aG.cell 1 _ rfl;have u2:=aG.cell 2 _ rfl;have u3:=aG.cell 3 _ rfl;have u4:=aG.cell 4 _ rfl;have v0:=((sQ.out.kept hc1 (by simp)).kept aO (by simp)).cell 0 _ rfl;have hcw:=(bD.out.then hc1).then aO
 have hs1:=hc1.size;have vP:=zh (aeM (H.out.kept hcw (by simp)) HI.out ((jO.out.kept aO (by simp)).mono (fun x hx=>hx)) (Gm:=New w6 w1) (fun x hx=>⟨by have:=hx.2;have:=aO.size;omega,fun ho=>by have:=H.out.lt x (.inl ho);have:=hx.1;have:=jF.out;omega⟩) gW.out (HL.out.kept hcw (by simp)));have M9:=zh (sN.out.kept hcw (by simp));have aB:=zh hcw;have EP:=zh ((lY.out.kept hc1 (by simp)).kept aO (by simp));have Bl:=zh (show w6.heap.size≤w1.heap.size∧w1.heap.size≤wF.heap.size from⟨hs1,aO.size⟩);clear hcA aZ aG hz hc1 aO hcw hs1 hmod hgv hpv;go_wp2_with fail;clear hw4 iG ay hwF z0 z1 z2 z3 z4 y0 y1 y2 y3 y4 x0 x1 u0 u1 u2 u3 u4 v0;refine vP.out.mono ?_;rintro _ w7 ⟨vo,rfl,jQ,l5,hch⟩;obtain⟨Z,hz,hZ⟩:=hch;have hlt:=fun y (hy:Own y)=>H.out.lt y (.inl hy)
 have HT:=zh (Iq (M9.out.kept hz (fun hm=>qj.out (hZ _ hm))) jQ);have EL:=zh (EP.out.kept hz (fun hm=>by have:=hlt _ (hZ _ hm);have:=jF.out;omega));have HZ:=zh hZ;have EM:=zh hz;have vQ:=zh l5;clear hz hZ hlt jQ l5;go_wp2_with fail;refine HT.out.mono ?_;rintro _ wT ⟨rfl,jr⟩;have fw:=zh jr;have iH:=EL.out.kept jr (by simp);have z0:=iH.cell 0 _ rfl;have z1:=iH.cell 1 _ rfl;have y0:=iH.frozen 0;have y1:=iH.frozen 1;obtain⟨wS,iY,hbS,fJ⟩:=mG 0 ah iH;have jw:=zh fJ;have q0:=hbS.cell 0 _ rfl;have q1:=hbS.cell 1 _ rfl;clear iH hbS fJ jr;go_wp2_with fail;refine bodyPost_ret (v:=.tuple #[.agg #[num 0,ah],num 0,num (q8 (iE W m).2)]) (by simp [results,Tryz.results23,go_sem,q0,q1]) rfl ?_;have hsz:=jF.out;have hs1:=Bl.out;have sP:ae [w4.heap.size] w7 wS:=fw.out.weak.then jw.out
 refine⟨_,More Own wF w7,fun y=>G y∨New w6 w1 y,rfl,⟨ah,rfl,⟨rfl,.inl ⟨rfl,rfl⟩⟩,From.nil _⟩,vQ.out.kept sP (fun y hy=>?_),fun y hy=>?_,fun y hy=>?_,Z,(aB.out.weak.then EM.out).trans sP (fun y hy=>.inr ?_),HZ.out⟩
 ·simp only [List.mem_singleton] at hy
  subst hy;refine⟨fun ho=>?_,fun hg=>?_⟩
  ·rcases ho with ho|ho
   ·have:=H.out.lt _ (.inl ho);omega
   ·omega
  ·rcases hg with hg|hg
   ·have:=H.out.lt _ (.inr hg);omega
   ·have:=hg.1;omega
 ·rcases hy with hy|hy
  ·exact .inl hy
  ·exact .inr (by omega)
 ·rcases hy with hy|hy
  ·exact .inl hy
  ·exact .inr (by have:=hy.1;omega)
 ·simp only [List.mem_singleton] at hy
  omega
end Go.Proofs.YtechofppmnnomaaGreatDoor
namespace Go.Proofs.YtechofppmnnomaaGreatDoor
open Go Go.RowKit Go.Mq Go.Mq.Tree Go.Mq.Sym Go.Mq.Run
open Go.Mq.Check (check Out)
set_option maxRecDepth 100000
set_option maxHeartbeats 4000000
theorem afm {w:World} {Own G:Nat→Prop} {bw B fuel g:Nat} {W:Wd} {x:Ac} {m:Mod} {r:Wd × Nat × List Int × Out} (h:dP w Own G bw W) (hL:Laid w B) (hE:kL w) (mJ : ¬ Own 0) (hw : x.what≠1) (hw2 : x.what≠2) (hfu : fuel≤1000000) (ht : x.text.length≤1000) (hp : parse x.text = .ok m) (hr : jG g W m fuel=some r) :
  Calls Tryz.prog 23 #[ptr bw,.agg #[num x.what,str x.text,str x.name,str x.proc,.slice x.ad x.args.length x.cap],num fuel] w (EG w Own G bw (r.1,r.2.1,r.2.2.1,0,q8 r.2.2.2)):=by
 obtain⟨wh,EO⟩ : ∃ y,y=x.what:=⟨_,rfl⟩
 rw [← EO] at hw hw2 ⊢;have hq : (wh == 1)=false:=by simpa using hw
 have hq2 : (wh == 2)=false:=by simpa using hw2
 obtain⟨w4,hw4⟩ : ∃ y,w.alloc (.cells #[num wh,str x.text,str x.name,str x.proc,.slice x.ad x.args.length x.cap] 57)=y:=⟨_,rfl⟩
 have hb4:ag w4 w.heap.size #[num wh,str x.text,str x.name,str x.proc,.slice x.ad x.args.length x.cap] 57:=by rw [← hw4];exact ag.new w _ _
 have hc4:ae [] w w4:=by rw [← hw4];exact(ae.refl _ _).alloc _
 have hs4 : w4.heap.size=w.heap.size + 1:=by rw [← hw4];simp
 obtain⟨w6,iG⟩ : ∃ y,w4.alloc (.cells #[num 0,ah] 43)=y:=⟨_,rfl⟩
 have hb6:ag w6 w4.heap.size #[num 0,ah] 43:=by rw [← iG];exact ag.new w4 _ _
 have hc6:ae [] w4 w6:=by rw [← iG];exact(ae.refl _ _).alloc _
 have hs6 : w6.heap.size=w4.heap.size + 1:=by rw [← iG];simp
 have lG:=hb4.kept hc6 (by simp);have x0:=lG.cell 0 _ rfl;have x1:=lG.cell 1 _ rfl;have hcw:=hc4.then hc6
 have hP:=Ao x.text (by omega) w6 B (hL.kept hcw (by simp));rw [hp] at hP;have HP:=zh hP;have gW:=zh (zD (by omega) hp);have sQ:=zh lG;have lY:=zh hb6;have bD:=zh hcw;have jF:=zh (show w4.heap.size=w.heap.size + 1∧w6.heap.size=w.heap.size + 2 by omega);have H:=zh h;have sN:=zh hE;have HL:=zh hL;have qj:=zh mJ;clear h hb4 hc4 hs4 hb6 hc6 hs6 lG hcw hE hL hP hp hw hw2 EO mJ
 go_enter Tryz.func23,Tryz.ntmps23
 go_wp2_with fail;refine HP.out.mono ?_;rintro _ w1 ⟨hc1,v,rfl,hmod⟩;have jO:=zh hmod;obtain⟨BN,BO,BP,BR,BS,BU,BV,BX,rfl,hgv,hpv⟩:=Gb hmod;have hz:=ag.new w1 #[str [],ah,ah,ah,ah] 32;obtain⟨wA,ay⟩ : ∃ w',w1.alloc (.cells #[str [],ah,ah,ah,ah] 32)=w':=⟨_,rfl⟩
 rw [ay] at hz;have hcA:ae [] w1 wA:=by rw [← ay];exact(ae.refl _ _).alloc _
 obtain⟨wF,hwF,aZ,aG⟩:=sZ (str m.name) (.slice BN m.imports.length BO) (.slice BP m.vars.length BR) (.slice BS m.procs.length BU) (.slice BV m.body.len BX) hz;have aO:ae [] w1 wF:=hcA.trans aZ (fun x hx=>.inr (by simp at hx;omega));have z0:=hz.cell 0 _ rfl;have z1:=hz.cell 1 _ rfl;have z2:=hz.cell 2 _ rfl;have z3:=hz.cell 3 _ rfl;have z4:=hz.cell 4 _ rfl;have y0:=hz.frozen 0;have y1:=hz.frozen 1;have y2:=hz.frozen 2;have y3:=hz.frozen 3;have y4:=hz.frozen 4;have u0:=aG.cell 0 _ rfl;have u1:=aG.cell 1 _ rfl;have u2:=aG.cell 2 _ rfl;have u3:=aG.cell 3 _ rfl;have u4:=aG.cell 4 _ rfl;have v0:=((sQ.out.kept hc1 (by simp)).kept aO (by simp)).cell 0 _ rfl;have hcw:=(bD.out.then hc1).then aO
 have hs1:=hc1.size;have vP:=zh (LK g (H.out.kept hcw (by simp)) ((jO.out.kept aO (by simp)).mono (fun x hx=>hx)) (Gm:=New w6 w1) (fun x hx=>⟨by have:=hx.2;have:=aO.size;omega,fun ho=>by have:=H.out.lt x (.inl ho);have:=hx.1;have:=jF.out;omega⟩) gW.out (by omega) hr);have M9:=zh (sN.out.kept hcw (by simp));have aB:=zh hcw;have EP:=zh ((lY.out.kept hc1 (by simp)).kept aO (by simp));have Bl:=zh (show w6.heap.size≤w1.heap.size∧w1.heap.size≤wF.heap.size from⟨hs1,aO.size⟩);clear hcA aZ aG hz hc1 aO hcw hs1 hmod hgv hpv hr;go_wp2_with fail;clear hw4 iG ay hwF z0 z1 z2 z3 z4 y0 y1 y2 y3 y4 x0 x1 u0 u1 u2 u3 u4 v0;refine vP.out.mono ?_;rintro _ w7 ⟨ve,vo,rfl,hev,jQ,l5,hch⟩;obtain⟨ov,rfl,hov,hof⟩:=hev;obtain⟨ea,ec,rfl⟩:=gq hov;obtain⟨Z,hz,hZ⟩:=hch;have hlt:=fun y (hy:Own y)=>H.out.lt y (.inl hy)
 have EH:=EP.out.kept hz (fun hm=>by have:=hlt _ (hZ _ hm);have:=jF.out;omega);obtain⟨w8,hw8⟩ : ∃ y,w7.alloc (.cells #[num 0,ah] 43)=y:=⟨_,rfl⟩
 have eD:ag w8 w7.heap.size #[num 0,ah] 43:=by rw [← hw8];exact ag.new w7 _ _
 have hc8:ae [] w7 w8:=by rw [← hw8];exact(ae.refl _ _).alloc _
 have i0:=eD.cell 0 _ rfl;have i1:=eD.cell 1 _ rfl;have j0:=eD.frozen 0;have j1:=eD.frozen 1;obtain⟨w9,EI,aW,bR⟩:=mG r.2.1 (.slice ea r.2.2.1.length ec) eD;have EJ:ae [] w7 w9:=hc8.trans bR (fun x hx=>.inr (by simp at hx;omega));obtain⟨wE,bW⟩ : ∃ y,y=w9.drew:=⟨_,rfl⟩
 have zW:ae [] w9 wE:=by rw [bW];exact(ae.refl [] w9).drew
 have sO:=EJ.then zW
 have zX:=aW.kept zW (by simp);have k0:=zX.cell 0 _ rfl;have k1:=zX.cell 1 _ rfl;have hne : w7.heap.size≠w4.heap.size:=by have:=hz.size;have:=jF.out;have:=Bl.out;omega
 have cZ:=zh hne;have Z1:=zh (bX.of (X:=[w4.heap.size]) (w0:=wE) k0 (by simpa using hne));have Z2:=zh (bX.of (X:=[w4.heap.size]) (w0:=wE) k1 (by simpa using hne));have EK:=((M9.out.kept hz (fun hm=>qj.out (hZ _ hm))).kept sO (by simp));have HT:=zh (Iq EK (Vf jQ sO (fun x hx=>by cases hx)));have EL:=zh (EH.kept sO (by simp));have HZ:=zh hZ;have EM:=zh hz;have EN:=zh sO;have xP:=zh hov;have nQ:=zh hof;have vQ:=zh l5;clear hz hZ hlt EH eD hc8 aW bR EJ zW sO zX EK jQ l5 hov hof hne;go_wp2_with fail;refine uq [w4.heap.size] rfl (by decide +kernel) ?_;rw [← bW];clear hw8 EI bW i0 i1 j0 j1;have hS:ae [w4.heap.size] wE wE:=ae.refl _ _
 repeat ((with_reducible refine gX ?_);(first|refine aL ?_|refine sK ?_|refine sM fun _ _=>?_|refine sL (hz:=by first|exact Z1.out|exact Z2.out) fun _ _=>?_|refine sE fun _ _=>?_);go_wp2_with fail)
 refine HT.out.mono ?_;rintro _ wT ⟨rfl,jr⟩;have fw:=zh jr;clear jr hS;have iH:=EL.out.kept fw.out (by simp);have z0:=iH.cell 0 _ rfl;have z1:=iH.cell 1 _ rfl;have y0:=iH.frozen 0;have y1:=iH.frozen 1;obtain⟨wS,iY,hbS,fJ⟩:=mG r.2.1 (.slice ea r.2.2.1.length ec) iH;have jf:=zh hbS;have jw:=zh fJ;clear iH hbS fJ;go_wp2_with fail;refine And.intro fw.out.weak ?_;have hS:ae [w4.heap.size] wE wT:=fw.out.weak
 repeat ((with_reducible refine gX ?_);(first|refine aL ?_|refine sK ?_|refine sM fun _ _=>?_|refine sL (hz:=by first|exact Z1.out|exact Z2.out) fun _ _=>?_|refine sE fun _ _=>?_);go_wp2_with fail)
 clear hS iY;refine And.intro (fw.out.weak.then jw.out) ?_;have hS:ae [w4.heap.size] wE wS:=fw.out.weak.then jw.out
 have q0:=jf.out.cell 0 _ rfl;have q1:=jf.out.cell 1 _ rfl
 repeat ((with_reducible refine gX ?_);(first|refine aL ?_|refine sK ?_|refine sM fun _ _=>?_|refine sL (hz:=by first|exact Z1.out|exact Z2.out) fun _ _=>?_|refine sE fun _ _=>?_);go_wp2_with fail)
 go_wp2_with fail;refine bodyPost_ret (v:=.tuple #[.agg #[num r.2.1,.slice ea r.2.2.1.length ec],num 0,num (q8 r.2.2.2)]) (by simp [results,Tryz.results23,go_sem,q0,q1]) rfl ?_;have hsz:=jF.out;have hs1:=Bl.out;have sP:ae [w4.heap.size] w7 wS:=(EN.out.weak.then fw.out.weak).then jw.out
 refine⟨_,More Own wF w7,fun y=>G y∨New w6 w1 y,rfl,⟨_,rfl,cK xP.out sP (fun y hy hm=>?_),fun y hy=>?_⟩,vQ.out.kept sP (fun y hy=>?_),fun y hy=>?_,fun y hy=>?_,Z,((aB.out.weak.then EM.out).then EN.out.weak).trans (fw.out.weak.then jw.out) (fun y hy=>.inr ?_),HZ.out⟩
 ·simp only [List.mem_singleton] at hm
  have:=nQ.out y hy;omega
 ·have:=nQ.out y hy
  omega
 ·simp only [List.mem_singleton] at hy
  subst hy;refine⟨fun ho=>?_,fun hg=>?_⟩
  ·rcases ho with ho|ho
   ·have:=H.out.lt _ (.inl ho);omega
   ·omega
  ·rcases hg with hg|hg
   ·have:=H.out.lt _ (.inr hg);omega
   ·have:=hg.1;omega
 ·rcases hy with hy|hy
  ·exact .inl hy
  ·exact .inr (by omega)
 ·rcases hy with hy|hy
  ·exact .inl hy
  ·exact .inr (by have:=hy.1;omega)
 ·simp only [List.mem_singleton] at hy
  omega
end Go.Proofs.YtechofppmnnomaaGreatDoor
namespace Go.Proofs.YtechofppmnnomaaGreatDoor
open Go Go.RowKit Go.Mq Go.Mq.Tree Go.Mq.Sym Go.Mq.Run
theorem afn {w:World} {Own G F:Nat→Prop} {bw B fuel g:Nat} {W:Wd} {x:Ac} {r:Wd × Nat × List Int × Int × Int} (h:dP w Own G bw W) (hI:Inv W) (hL:Laid w B) (hE:kL w) (mJ : ¬ Own 0) (ha:Row w F x.ad (ints x.args)) (hF : ∀ y,F y→y < w.heap.size∧¬ Own y) (ht : x.text.length≤1000) (h10 : x.args.length≤10) (hfu : fuel≤1000000) (hr : qw g W x fuel=some r) :
  Calls Tryz.prog 23 #[ptr bw,.agg #[num x.what,str x.text,str x.name,str x.proc,.slice x.ad x.args.length x.cap],num fuel] w (EG w Own G bw r):=by
 unfold qw at hr
 split at hr
 ·rename_i h1
  obtain⟨r',h2,rfl⟩:=Option.map_eq_some_iff.1 hr;exact afi h hE mJ ha hF h10 hfu h1 h2
 ·rename_i h1
  cases hp : parse x.text with
  | bad en p=>rw [hp] at hr;cases hr;exact afj h hL hE h1 ht hp
  | ok m=>
   rw [hp] at hr;simp only at hr;split at hr
   ·rename_i h2
    cases hr
    exact afl h hI hL hE mJ h2 ht hp
   ·rename_i h2
    obtain⟨r',h3,rfl⟩:=Option.map_eq_some_iff.1 hr;exact afm h hL hE mJ h1 h2 hfu ht hp h3
end Go.Proofs.YtechofppmnnomaaGreatDoor
namespace Go.Proofs.YtechofppmnnomaaGreatDoor
open Go Go.RowKit Go.Mq Go.Mq.Tree Go.Mq.Sym Go.Mq.Run
open Go.Mq.Check (check Out)
set_option maxRecDepth 100000
set_option maxHeartbeats 4000000
theorem afo {l:List Ac} (h : xU l=true) : l.length≤12 ∧ ∀ x∈l,x.text.length≤1000∧x.name.length≤40∧x.proc.length≤40∧x.args.length≤10:=by
 simp only [xU,Bool.and_eq_true,decide_eq_true_eq,Bool.not_eq_true',List.any_eq_false] at h;refine⟨h.1,fun x hx=>?_⟩;have:=h.2 x hx;simp only [xS,Bool.or_eq_true,decide_eq_true_eq] at this;omega
end Go.Proofs.YtechofppmnnomaaGreatDoor
namespace Go.Mq.Run
open Go Go.RowKit Go.Mq Go.Mq.Tree Go.Proofs.YtechofppmnnomaaGreatDoor
theorem IP (w:World) (t:TypeId) (z v0 v1 v2 v3 v4:Value) {z1 z2 z3 z4:Value} : ∃ wA wF,w.alloc (.cells #[z,z1,z2,z3,z4] t)=wA∧(((((wA.setCell ⟨w.heap.size,0,none⟩ v0).setCell ⟨w.heap.size,1,none⟩ v1).setCell ⟨w.heap.size,2,none⟩ v2).setCell ⟨w.heap.size,3,none⟩ v3).setCell ⟨w.heap.size,4,none⟩ v4)=wF∧ag wA w.heap.size #[z,z1,z2,z3,z4] t∧ae [] w wF∧ag wF w.heap.size #[v0,v1,v2,v3,v4] t:=by
 obtain⟨wF,h1,h2,h3⟩:=sZ v0 v1 v2 v3 v4 (ag.new w #[z,z1,z2,z3,z4] t);exact⟨_,wF,rfl,h1,ag.new w _ t,((ae.refl _ _).alloc _).trans h2 (fun x hx=>.inr (by simp at hx;omega)),h3⟩
theorem Na (w:World) (t:TypeId) (n:Int) (v:Value) {z z1:Value} : ∃ wA wF,w.alloc (.cells #[z,z1] t)=wA∧((wA.setCell ⟨w.heap.size,0,none⟩ (num n)).setCell ⟨w.heap.size,1,none⟩ v)=wF∧(wA.cell? ⟨w.heap.size,0,none⟩=some z∧wA.cell? ⟨w.heap.size,1,none⟩=some z1)∧(wA.frozen? ⟨w.heap.size,0,none⟩=false∧wA.frozen? ⟨w.heap.size,1,none⟩=false)∧ae [] w wF∧ag wF w.heap.size #[num n,v] t:=by
 have hb:=ag.new w #[z,z1] t;obtain⟨wF,h1,h2,h3⟩:=mG n v hb;exact⟨_,wF,rfl,h1,⟨hb.cell 0 _ rfl,hb.cell 1 _ rfl⟩,⟨hb.frozen 0,hb.frozen 1⟩,((ae.refl _ _).alloc _).trans h3 (fun x hx=>.inr (by simp at hx;omega)),h2⟩
def x9 (a:Nm) (x:Ac):Bool:=(x.name == a) || match parse x.text with
 | .ok m=>(m.name == a) || decide (a∈m.imports)
 | .bad _ _=>false
end Go.Mq.Run
namespace Go.Proofs.YtechofppmnnomaaGreatDoor
open Go Go.RowKit Go.Mq Go.Mq.Tree Go.Mq.Sym Go.Mq.Run
set_option maxRecDepth 100000
set_option maxHeartbeats 4000000
theorem afp (x:Ac) (a:Run.Nm) (bm:Nat) (u1 u2 u3 u4:Value) (w:World) (B:Nat) (hL:Laid w B) (ht : x.text.length≤1000) (hb:ag w bm #[str a,u1,u2,u3,u4] 32) :
  Calls Tryz.prog 21 #[.agg #[num x.what,str x.text,str x.name,str x.proc,.slice x.ad x.args.length x.cap],ptr bm] w (fun e w'=>e = .returned (.bool (x9 a x))∧ae [] w w'):=by
 obtain⟨w4,hw4⟩ : ∃ y,w.alloc (.cells #[num x.what,str x.text,str x.name,str x.proc,.slice x.ad x.args.length x.cap] 57)=y:=⟨_,rfl⟩
 have hb4:ag w4 w.heap.size #[num x.what,str x.text,str x.name,str x.proc,.slice x.ad x.args.length x.cap] 57:=by rw [← hw4];exact ag.new w _ _
 have hc4:ae [] w w4:=by rw [← hw4];exact(ae.refl _ _).alloc _
 have x1:=hb4.cell 1 _ rfl;have hP:=Ao x.text (by omega) w4 B (hL.kept hc4 (by simp));obtain⟨ub,hub⟩ : ∃ b,b=x9 a x:=⟨_,rfl⟩
 rw [← hub];have AB:=zh hub;have HP:=zh hP;have HC:=zh hc4;have sQ:=zh hb4;have kV:=zh (hb.kept hc4 (by simp));have HG:=zh (fun(m:Mod) (h : parse x.text = .ok m)=>zD ht h);clear hP hub hc4 hb4 hb hL
 go_enter Tryz.func21,Tryz.ntmps21
 go_wp2_with fail;refine HP.out.mono ?_;rintro e w1 ⟨hc1,hr⟩;cases hp : parse x.text
 case' bad en q=>
  rw [hp] at hr;obtain⟨b,rfl,_,_⟩:=hr;have HU:=zh (show ub=((x.name == a) || false) by rw [AB.out,x9,hp]);obtain⟨wA,wF,ay,hwF,hz,gI,aG⟩:=IP w1 32 (str []) (str []) ah ah ah ah (z1:=ah) (z2:=ah) (z3:=ah) (z4:=ah);have HK:=zh trivial
 case' ok m=>
  rw [hp] at hr;obtain⟨v,rfl,hmod⟩:=hr;obtain⟨vi,vv,vp,vb,rfl,⟨ai,ci,rfl,hi1,hi2⟩,⟨av,cv,rfl,_⟩,⟨ap,cp,tJ,rfl,_⟩,⟨ab,cb,Bg,rfl,_⟩⟩:=hmod;have HU:=zh (show ub=((x.name == a) || ((m.name == a) || decide (a∈m.imports))) by rw [AB.out,x9,hp]);have HI:=zh (HG.out m hp).few.imports;obtain⟨wA,wF,ay,hwF,hz,gI,aG⟩:=IP w1 32 (str []) (str m.name) (.slice ai m.imports.length ci) (.slice av m.vars.length cv) (.slice ap m.procs.length cp) (.slice ab m.body.len cb) (z1:=ah) (z2:=ah) (z3:=ah) (z4:=ah);have HK:=zh (Db m.imports HI.out a _ (.slice ai m.imports.length ci) wF ⟨_,_,rfl,hi1,hi2.kept gI (by simp)⟩);clear hi1 hi2
 all_goals
  obtain⟨z0,z1,z2,z3,z4⟩:=hz.five;obtain⟨y0,y1,y2,y3,y4,_⟩:=hz.lI;have dM:=zh (hc1.then gI);have x2 : wF.cell? _=_:=(sQ.out.kept dM.out (by simp)).cell 2 _ rfl;have m0 : wF.cell? _=_:=(kV.out.kept dM.out (by simp)).cell 0 _ rfl;obtain⟨n0,n1,_⟩:=aG.five;clear hz hc1 gI aG hp;cases hn : (x.name == a)
  rotate_left
  focus
   rw [hn,Bool.true_or] at HU;go_wp2_with fail;go_ret
   exact⟨by rw [HU.out] <;> rfl,HC.out.then dM.out⟩
  rw [hn,Bool.false_or] at HU
 case' bad=>
  go_wp2_with fail;go_ret
  exact⟨by rw [HU.out] <;> rfl,HC.out.then dM.out⟩
 cases hm : (m.name == a)
 rotate_left
 ·rw [hm,Bool.true_or] at HU
  go_wp2_with fail;go_ret
  exact⟨by rw [HU.out] <;> rfl,HC.out.then dM.out⟩
 rw [hm,Bool.false_or] at HU;go_wp2_with fail;refine HK.out.mono ?_;rintro _ _ ⟨rfl,rfl⟩;go_wp2_with fail;go_ret
 exact⟨by rw [HU.out] <;> rfl,HC.out.then dM.out⟩
end Go.Proofs.YtechofppmnnomaaGreatDoor
