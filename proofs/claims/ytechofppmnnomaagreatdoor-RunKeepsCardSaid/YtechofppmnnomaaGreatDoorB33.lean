/- Some texts in one. -/
import Derived.Test.YtechofppmnnomaaGreatDoorB28
import Derived.Test.YtechofppmnnomaaGreatDoorB32
namespace Go.Mq.Run
open Go Go.RowKit Go.Mq Go.Mq.Tree Go.Mq.Sym
open Classical
theorem aec {l:List bJ} (hn : (l.map (·.name)).Nodup) {x y:bJ} (hx : x∈l) (hy : y∈l) (h : x.name=y.name) : x=y:=by
 induction l with
 | nil=>cases hx
 | cons a r ih=>
  rw [List.map_cons,List.nodup_cons] at hn;rcases List.mem_cons.1 hx with h1|h1 <;> rcases List.mem_cons.1 hy with h2|h2
  ·rw [h1,h2]
  ·exact(hn.1 (List.mem_map.2 ⟨y,h2,by rw [← h,h1]⟩)).elim
  ·exact(hn.1 (List.mem_map.2 ⟨x,h1,by rw [h,h2]⟩)).elim
  ·exact ih hn.2 h1 h2
theorem Ut {M:Ms} {l:List Nm} {b:Nm} : (l.any fun n=>sF M n b)=true ↔ ∃ n∈l,Run.Reach M n b:=by
 simp [sF,List.any_eq_true]
theorem aed {W:Wd} {m old:Mod} (h1:W.M m.name=some old) (h2:Go.Mq.Check.Out.fine=Go.Mq.Check.check m (dP W.M)) (h3 : ∃ n∈m.imports,Run.Reach W.M n m.name) : fE W m=(W,.plain 11):=by
 rw [fE,h1];simp only;rw [← h2];simp only;rw [if_pos h3]
theorem aee {W:Wd} {m old:Mod} (h1:W.M m.name=some old) (h2:Go.Mq.Check.Out.fine=Go.Mq.Check.check m (dP W.M)) (h3 : ¬ ∃ n∈m.imports,Run.Reach W.M n m.name) (h4 : ∃ n∈W.order,∃ mn,W.M n=some mn∧iB (ofM old) (Go.Mq.Used.fM m.name mn)≠iB (ofM m) (Go.Mq.Used.fM m.name mn)) : fE W m=(W,.plain 6):=by
 rw [fE,h1];simp only;rw [← h2];simp only;rw [if_neg h3,if_pos h4]
theorem aef {W:Wd} {m old:Mod} (h1:W.M m.name=some old) (h2:Go.Mq.Check.Out.fine=Go.Mq.Check.check m (dP W.M)) (h3 : ¬ ∃ n∈m.imports,Run.Reach W.M n m.name) (h4 : ¬ ∃ n∈W.order,∃ mn,W.M n=some mn∧iB (ofM old) (Go.Mq.Used.fM m.name mn)≠iB (ofM m) (Go.Mq.Used.fM m.name mn)) : fE W m=(⟨bT W.M m,jD W.vs old m,W.order⟩,.fine):=by
 rw [fE,h1];simp only;rw [← h2];simp only;rw [if_neg h3,if_neg h4]
def qB (vs:Nm→Option (List Int)) (old l all:List bJ):Nm→Option (List Int):=fun n=>if (l.any fun g=>g.name == n && old.any fun h=>h.name == n && h.len == g.len) then vs n else jf all n
theorem aeg (vs:Nm→Option (List Int)) (old all:List bJ) : qB vs old [] all=jf all:=by funext n;simp [qB]
theorem Uu {vs:Nm→Option (List Int)} {old l all:List bJ} {g:bJ} (h : (old.any fun h=>h.name == g.name && h.len == g.len)=false) : qB vs old (l ++ [g]) all=qB vs old l all:=by
 funext n
 have : (g.name == n && old.any fun h=>h.name == n && h.len == g.len)=false:=by
  cases he : g.name == n with
  | false=>rfl
  | true=>
   have:=eq_of_beq he;subst this
   simpa using h
 simp only [qB,List.any_append,List.any_cons,List.any_nil,this,Bool.or_false]
theorem aeh {vs:Nm→Option (List Int)} {old l all:List bJ} {g:bJ} {x:List Int} (h : (old.any fun h=>h.name == g.name && h.len == g.len)=true) (hx : vs g.name=some x) : qB vs old (l ++ [g]) all=fun n=>if n=g.name then some x else qB vs old l all n:=by
 funext n
 by_cases he : n=g.name
 ·subst he
  simp only [qB,List.any_append,List.any_cons,List.any_nil,h,beq_self_eq_true,Bool.and_self,Bool.or_true,Bool.true_or,if_true,hx]
 ·have : (g.name == n)=false:=by simpa using fun e=>he e.symm
  simp only [qB,List.any_append,List.any_cons,List.any_nil,this,Bool.false_and,Bool.or_false,if_neg he]
theorem aei (vs:Vs) (m old:Mod) : qB (vs m.name) old.vars m.vars m.vars=jD vs old m m.name:=by
 funext n
 rw [jD,if_pos rfl];by_cases h : xP old m n=true
 ·rw [if_pos h];exact if_pos h
 ·rw [if_neg h];exact if_neg h
theorem MB {W:Wd} (hI:Inv W) {q:Nm} {old:Mod} (ho:W.M q=some old) {g:bJ} (hk : (old.vars.any fun h=>h.name == g.name && h.len == g.len)=true) : ∃ l,W.vs q g.name=some l∧l.length=jC g:=by
 obtain⟨h,hh,hb⟩:=List.any_eq_true.1 hk;simp only [Bool.and_eq_true,beq_iff_eq] at hb;have hs:=hI.shape q g.name;rw [ho] at hs;simp only [Option.bind_some] at hs;rw [← hb.1,Bv (Ib hI.ok ho) hh,hb.1] at hs;cases hv:W.vs q g.name with
 | none=>rw [hv] at hs;cases hs
 | some l=>
  rw [hv] at hs;simp only [Option.map_some,Option.some.injEq] at hs;exact⟨l,rfl,by rw [hs,zeros,List.length_replicate,jC,jC,hb.2]⟩
theorem aej {W:Wd} (hI:Inv W) {q:Nm} {old m:Mod} (ho:W.M q=some old) (hn : (m.vars.map (·.name)).Nodup) {l:List bJ} {g:bJ} (hg : g∈m.vars) (hl : ∀ x∈l,x∈m.vars) : ∃ y,qB (W.vs q) old.vars l m.vars g.name=some y∧y.length=jC g:=by
 rw [qB];split
 ·next h=>
  obtain⟨x,hx,hb⟩:=List.any_eq_true.1 h;simp only [Bool.and_eq_true,beq_iff_eq] at hb;have hxg : x=g:=aec hn (hl x hx) hg hb.1;subst hxg;exact MB hI ho hb.2
 ·exact⟨_,Bv hn hg,by simp [zeros]⟩
end Go.Mq.Run
namespace Go.Proofs.YtechofppmnnomaaGreatDoor
open Go Go.RowKit Go.Mq Go.Mq.Tree Go.Mq.Sym Go.Mq.Run
open Go.Mq.Check (fI cu bK dx check Out ik)
open Go.Mq.fo (aZ getM dB jm jV mQ jo)
open Go.Mq.Used (fM GZ RF)
set_option maxRecDepth 100000
set_option maxHeartbeats 4000000
def xW (w:World) (Own G Gm:Nat→Prop) (bw:Nat) (r:Wd × Out) (e:Ending) (w':World):Prop:=
 ∃ vo,e = .returned vo∧ql w' r.2 vo∧dZ w' (More Own w w') (fun x=>G x∨Gm x) bw r.1∧vF Own w w'
theorem xW.no {w w':World} {Own G Gm:Nat→Prop} {bw:Nat} {W:Wd} {o:Out} {vo:Value} (h:dZ w Own G bw W) (hc:ae [] w w') (hgm : ∀ x,Gm x→x < w.heap.size∧¬ Own x) (he:ql w' o vo):xW w Own G Gm bw (W,o) (.returned vo) w':=
 ⟨_,rfl,he,h.idle hc hgm,.of hc⟩
theorem aek {m:Mod} (hg:kL m) {F:Nat→Prop} {ai:Option Addr} {ci:Nat} {av:Option Addr} {cv:Nat} {ap:Option Addr} {cp:Nat} {ab:Option Addr} {cb:Nat} (w:World) (h:gY w F m (.agg #[str m.name,.slice ai m.imports.length ci,.slice av m.vars.length cv,.slice ap m.procs.length cp,.slice ab m.body.len cb])) :
  Calls Tryz.prog 52 #[.agg #[str m.name,.slice ai m.imports.length ci,.slice av m.vars.length cv,.slice ap m.procs.length cp,.slice ab m.body.len cb]] w (fun e w'=>∃ v,e = .returned v∧lY w' (New w w') (ofM m) v∧ae [] w w'):=by
 obtain⟨vi,vv,vp,vb,he,hi,hv,hp,hb⟩:=h;cases he
 exact PH m.vars m.procs hg.wf.oF hg.wf.tq F m.name ai _ ci ab _ cb _ _ w hv (uN hp)
theorem Uv {m:Mod} (hg:kL m) (names:List Nm) (hn : names.length≤1000) (hs : ∀ n∈names,n.length≤10) (F F':Nat→Prop) (v v':Value) (w:World) (B:Nat) (hL:Laid w B) (h:lY w F (ofM m) v) (h':eF w F' names v') :
  Calls Tryz.prog 54 #[v,v'] w (fun e w'=>e = .returned (str (iB (ofM m) names))∧ae [] w w'):=
 YN (ofM m) (L6 hg) (by have:=PS hg.wf.oF hg.wf.tq;rw [ofM];omega) names hn (fun n h=>by have:=hs n h;omega) F F' v v' w B hL h h'
theorem ael {m:Mod} (hg:kL m) (g:List UInt8) : (fM g m).length≤1000:=by
 rw [fM,List.length_mergeSort];exact Nat.le_trans (RF g m) hg.cnt
theorem aem : ∀ (a:Addr) (k:Nat) (w:World),(binOp .neq 41 (.slice (some a) k k) (.slice none 0 0)).run Tryz.prog w = .ok (.bool true) w:=fun _ _ _=>by kernel_rfl
theorem aen : ∀ (w:World),(binOp .neq 41 (.slice none 0 0) (.slice none 0 0)).run Tryz.prog w = .ok (.bool false) w:=fun _=>by kernel_rfl
theorem aeo {w:World} {a b:Nat} {l:List Int} {cur:Array Value} (ty:TypeId) (ha:ag w a (ints l).toArray bO) (hb:ag w b cur bO) (hn : cur.size=l.length) :
  ∃ w',(Builtin.copy_ #[41,41] ty #[.slice (some ⟨b,0,none⟩) l.length l.length,.slice (some ⟨a,0,none⟩) l.length l.length]).run Tryz.prog w = .ok (goInt l.length) w'∧ae [b] w w'∧ag w' b (ints l).toArray bO:=by
 have h:=run_copy_row (P:=Tryz.prog) w 41 41 ty bO b 0 l.length l.length ⟨a,0,none⟩ l.length l.length cur bO (ints l) Tryz.underlying41 (by kernel_rfl) hb (by simp) (fun j v hv=>by
  have hx:=ha.cell j v (by simpa using hv);by_cases hj : j=0
  ·subst hj;simpa [Addr.add] using hx
  ·simpa [Addr.add,hj] using hx) (by simp;omega) (fun v hv=>by
  obtain⟨x,_,rfl⟩:=List.mem_map.1 hv
  rfl)
 have he : (cur.toList.take 0 ++ ints l ++ cur.toList.drop (0 + (ints l).length)).toArray=(ints l).toArray:=by
  rw [List.drop_of_length_le (by simp;omega)];simp
 rw [he] at h;refine⟨w.setRow b (ints l).toArray,by simpa using h,⟨rfl,rfl,rfl,by simp,fun k _ hk=>setRow_other w b k _ (fun e=>hk (by simp [e]))⟩,setRow_heap w b cur _ bO _ hb⟩
theorem aep {w:World} {b:Nat} (v0 v1 v2 v3 v4 v5:Value) {u0 u1 u2 u3 u4 u5:Value} {t:TypeId} (h:ag w b #[u0,u1,u2,u3,u4,u5] t) : ∃ wF,((((((w.setCell ⟨b,0,none⟩ v0).setCell ⟨b,1,none⟩ v1).setCell ⟨b,2,none⟩ v2).setCell ⟨b,3,none⟩ v3).setCell ⟨b,4,none⟩ v4).setCell ⟨b,5,none⟩ v5)=wF∧ae [b] w wF∧ag wF b #[v0,v1,v2,v3,v4,v5] t:=
 ⟨_,rfl,(((((ae.set1 _ _ _ _).then (ae.set1 _ _ _ _)).then (ae.set1 _ _ _ _)).then (ae.set1 _ _ _ _)).then (ae.set1 _ _ _ _)).then (ae.set1 _ _ _ _),by
  have:=(((((h.set 0 v0).set 1 v1).set 2 v2).set 3 v3).set 4 v4).set 5 v5
  simpa using this⟩
theorem Uw {w:World} {Own G Gm:Nat→Prop} {bw:Nat} {W:Wd} {m:Mod} {vm:Value} {B:Nat} (h:dZ w Own G bw W) (hI:Inv W) (hm:gY w Gm m vm) (hgm : ∀ x,Gm x→x < w.heap.size∧¬ Own x) (hgood:kL m) (hL:Laid w B) :
  Calls Tryz.prog 24 #[ptr bw,vm] w (xW w Own G Gm bw (fE W m)):=by
 have mO : ∀ (fn:Fn) (first cap:Array Value) (w:World),(Instr.makeFunc fn first cap).run Tryz.prog w = .ok (.func fn first cap) w:=fun _ _ _ _=>rfl
 have hne1:=aem;have hne2:=aen;obtain⟨pv,oa,oc,hfr⟩:=h.front;obtain⟨ai,ci,av,cv,ap,cp,ab,cb,rfl⟩ : ∃ (ai:Option Addr) (ci:Nat) (av:Option Addr) (cv:Nat) (ap:Option Addr) (cp:Nat) (ab:Option Addr) (cb:Nat),vm = .agg #[str m.name,.slice ai m.imports.length ci,.slice av m.vars.length cv,.slice ap m.procs.length cp,.slice ab m.body.len cb]:=by
  obtain⟨vi,vv,vp,vb,rfl,⟨ai,ci,rfl,_⟩,⟨av,cv,rfl,_⟩,⟨ap,cp,uO,rfl,_⟩,⟨ab,cb,DV,rfl,_⟩⟩:=hm;exact⟨_,_,_,_,_,_,_,_,rfl⟩
 obtain⟨w0,hw0⟩ : ∃ x,w.alloc (.cells #[ptr bw] 50)=x:=⟨_,rfl⟩
 have hb0:ag w0 w.heap.size #[ptr bw] 50:=by rw [← hw0];exact ag.new w _ _
 have hc0:ae [] w w0:=by rw [← hw0];exact(ae.refl _ _).alloc _
 have hs0 : w0.heap.size=w.heap.size + 1:=by rw [← hw0];simp
 obtain⟨w1,hw1⟩ : ∃ x,w0.alloc (.cells #[str m.name,.slice ai m.imports.length ci,.slice av m.vars.length cv,.slice ap m.procs.length cp,.slice ab m.body.len cb] 32)=x:=⟨_,rfl⟩
 have hb1:ag w1 w0.heap.size #[str m.name,.slice ai m.imports.length ci,.slice av m.vars.length cv,.slice ap m.procs.length cp,.slice ab m.body.len cb] 32:=by rw [← hw1];exact ag.new w0 _ _
 have hc1:ae [] w0 w1:=by rw [← hw1];exact(ae.refl _ _).alloc _
 have hs1 : w1.heap.size=w0.heap.size + 1:=by rw [← hw1];simp
 obtain⟨b2,hb2⟩ : ∃ b,b=w.heap.size:=⟨_,rfl⟩
 obtain⟨b3,hb3⟩ : ∃ b,b=w0.heap.size:=⟨_,rfl⟩
 have Eb:ae [] w w1:=hc0.then hc1
 obtain⟨wD,aI⟩ : ∃ x,x=w1.drew:=⟨_,rfl⟩
 have xI:ae [] w1 wD:=by rw [aI];exact(ae.refl [] w1).drew
 have bz:ae [] w wD:=Eb.then xI
 have Iu:=(hb0.kept hc1 (by simp)).kept xI (by simp);have Iw:=hb1.kept xI (by simp);have hwb:=hfr.blk.kept bz (by simp);rw [← hb2] at Iu;rw [← hb3] at Iw;have x2:=Iu.cell 0 _ rfl;have x3:=Iw.cell 0 _ rfl;have b0:=hwb.cell 0 _ rfl;obtain⟨o,hlk⟩:=G9 hfr m.name;have fV:=zh (fun w' (hc:ae [] wD w')=>hlk w' (bz.then hc));clear hlk;have dW:=zh (show b2=w.heap.size∧b3=w.heap.size + 1∧wD.heap.size=w.heap.size + 2 by
  refine⟨hb2,by omega,by rw [aI];show w1.heap.size=_;omega⟩)
 have H:=zh h;have HI:=zh hI;have HM:=zh hm;have iZ:=zh hgm;have gm:=zh hgood;have HL:=zh hL;have cB:=zh hfr;have MC:=zh Iu;have xX:=zh Iw;have dL:=zh bz;clear h hI hm hgm hgood hL hfr hb0 hc0 hs0 hb1 hc1 hs1 Eb xI bz Iu Iw hwb;cases hold:W.M m.name with
 | none=>
  rw [hold] at fV;have HR:=zh (show (W,Out.plain 7)=fE W m by rw [fE,hold]);clear hold
  go_enter Tryz.func24,Tryz.ntmps24
  go_wp2_with fail;rw [← hb2,← hb3];clear hw0 hw1 hb2 hb3;refine ug [] rfl (by kernel_rfl) ?_;rw [← aI];clear aI;have hS:ae [] wD wD:=ae.refl _ _
  repeat ((with_reducible refine gX ?_);(first|refine aM ?_|refine sK ?_|refine sM fun _ _=>?_|refine sL fun _ _=>?_|refine sE fun _ _=>?_);go_wp2_with fail)
  refine qW rfl rfl rfl rfl fV.out ?_;go_wp2_with fail
  repeat ((with_reducible refine gX ?_);(first|refine aM ?_|refine sK ?_|refine sM fun _ _=>?_|refine sL fun _ _=>?_|refine sE fun _ _=>?_);go_wp2_with fail)
  go_ret
  rw [← HR.out];exact xW.no H.out dL.out iZ.out rfl
 | some old=>
  rw [hold] at fV;obtain⟨bp,L,bR,rfl,hhas,fZ⟩ : ∃ bp L bR,pv=some bp∧Has w Own G bw W L∧ng w Own G bw W L bp (.slice oa W.order.length oc) bR:=by
   rcases cB.out.at_ with⟨_,rfl,_⟩|h
   ·cases hold
   ·exact h
  have hqq:=fZ.2.2.2.2.2.2 m.name;rw [hold] at hqq;obtain⟨hget,hown,TQ,_,Et⟩:=hqq;have hlk2 : ∀ w',ae [] wD w'→(Instr.lookup 38 (.map (some bp)) (str m.name) true).run Tryz.prog w' = .ok (.tuple #[ptr (L.pb m.name),.bool true]) w':=fun w' hc=>by
   have hl:=jV (P:=Tryz.prog) Tryz.underlying38 Tryz.underlying9 (rR w') (fZ.2.2.1.kept (dL.out.then hc) (by simp)) m.name;rw [hget] at hl;exact hl
  have fV:=zh hlk2;have kM:=zh hhas;have fC:=zh fZ;have ME:=zh Et;have HOLD:=zh hold;clear hhas fZ hget hown Et hold hlk2
  go_enter Tryz.func24,Tryz.ntmps24
  go_wp2_with fail;rw [← hb2,← hb3];clear hw0 hw1 hb2 hb3;refine ug [] rfl (by kernel_rfl) ?_;rw [← aI];clear aI;have hS:ae [] wD wD:=ae.refl _ _
  repeat ((with_reducible refine gX ?_);(first|refine aM ?_|refine sK ?_|refine sM fun _ _=>?_|refine sL fun _ _=>?_|refine sE fun _ _=>?_);go_wp2_with fail)
  refine qW rfl rfl rfl rfl fV.out ?_;have pz:=zh (RI (H.out.kept dL.out (by simp)));go_wp2_with fail
  repeat ((with_reducible refine gX ?_);(first|refine aM ?_|refine sK ?_|refine sM fun _ _=>?_|refine sL fun _ _=>?_|refine sE fun _ _=>?_);go_wp2_with fail)
  refine pz.out.mono ?_;rintro _ w3 ⟨vs,rfl,hsv,hc3⟩;obtain⟨sv,rfl⟩ : ∃ ov,vs = .map ov:=by
   rcases hsv with⟨h,_⟩|⟨b,_,h,_⟩
   ·exact⟨_,h⟩
   ·exact⟨_,h⟩
  have uP:=zh hsv;have bG:=zh hc3;have vw:=zh (Q7 m gm.out.few (dP W.M) (fun x=>Gm x∨New wD w3 x) _ (.map sv) w3 (fun x hx=>by
   rcases hx with hx|hx
   ·have:=(iZ.out x hx).1;have:=(dL.out.then hc3).size;omega
   ·exact hx.2) ((HM.out.kept (dL.out.then hc3) (by simp)).mono (fun x hx=>.inl hx)) (hsv.mono (fun x hx=>.inr hx)))
  clear hS x2 x3 b0 hsv hc3;have h3:=xX.out.kept bG.out (by simp);have q0:=h3.cell 0 _ rfl;have q1:=h3.cell 1 _ rfl;have q2:=h3.cell 2 _ rfl;have q3:=h3.cell 3 _ rfl;have q4:=h3.cell 4 _ rfl;clear h3;go_wp2_with fail;refine vw.out.mono ?_;rintro e w4 ⟨hc4,hck⟩;have Ux:=zh hc4;have cz:=zh (bG.out.then hc4);have lQ:=zh (dL.out.then (bG.out.then hc4));clear hc4 q0 q1 q2 q3 q4;obtain⟨LA,hoc⟩ : ∃ o,o=check m (dP W.M):=⟨_,rfl⟩
  rw [← hoc] at hck;have sw:=zh hoc;clear hoc;cases LA with
  | plain n=>
   simp only at hck;subst hck;have HR:=zh (show (W,Out.plain n)=fE W m by rw [fE,HOLD.out];simp only;rw [← sw.out]);go_wp2_with fail;go_ret
   rw [← HR.out];exact xW.no H.out lQ.out iZ.out rfl
  | at_ en p=>
   obtain⟨ba,rfl,jL,hbb⟩:=hck;have HR:=zh (show (W,Out.at_ en p)=fE W m by rw [fE,HOLD.out];simp only;rw [← sw.out]);have qg:=zh hbb;clear jL hbb;go_wp2_with fail;go_ret
   rw [← HR.out];exact xW.no H.out lQ.out iZ.out ⟨ba,rfl,qg.out⟩
  | fine=>
   simp only at hck;subst hck;have h3:=xX.out.kept cz.out (by simp);have h2:=MC.out.kept cz.out (by simp);have q1:=h3.cell 1 _ rfl;obtain⟨vi,vv,vp,vb,nQ,hni,_,_,_⟩:=HM.out.kept lQ.out (by simp);cases nQ
   have dM:=zh (TN #[ptr b2,ptr b3] 50 (fun _ _=>rfl) m.imports gm.out.few.imports (fun n=>sF W.M n m.name) _ _ w4 hni (fun n hn w' hc=>by
    have z0:=(h2.kept hc (by simp)).cell 0 _ rfl;have z1:=(h3.kept hc (by simp)).cell 0 _ rfl;have HRR:=zh (adk H.out m.name n (HI.out.zO n) w' (lQ.out.then hc));clear h2 h3 hni q1 vw pz fV kM fC ME cB
    go_enter Tryz.func50,Tryz.ntmps50
    go_wp2_with fail;refine HRR.out.mono ?_;rintro _ w2 ⟨rfl,hc2⟩;go_wp2_with fail;go_ret
    exact⟨rfl,hc2⟩))
   clear h2 h3 hni;go_wp2_with fail;refine dM.out.mono ?_;rintro _ w5 ⟨rfl,bC⟩;have Uy:=zh bC;have cO:=zh (cz.out.then bC);have MF:=zh (lQ.out.then bC);clear bC q1;cases hany : (m.imports.any fun n=>sF W.M n m.name) with
   | true=>
    have HR:=zh (aed HOLD.out sw.out (Ut.1 hany)).symm;clear hany;go_wp2_with fail;go_ret
    rw [← HR.out];exact xW.no H.out MF.out iZ.out rfl
   | false=>
    have Uz:=zh (show ¬ ∃ n∈m.imports,Run.Reach W.M n m.name from fun h=>by rw [Ut.2 h] at hany;cases hany);clear hany;have h3:=xX.out.kept cO.out (by simp);have q0:=h3.cell 0 _ rfl;have q1:=h3.cell 1 _ rfl;have q2:=h3.cell 2 _ rfl;have q3:=h3.cell 3 _ rfl;have q4:=h3.cell 4 _ rfl;clear h3;have nN:=zh (aek gm.out w5 (HM.out.kept MF.out (by simp)));go_wp2_with fail;refine nN.out.mono ?_;rintro _ w6 ⟨nv,rfl,nS,hc6⟩;have HNV:=zh nS;have BB:=zh hc6;have bI:=zh (cO.out.then hc6);have zW:=zh (MF.out.then hc6);clear nS hc6 q0 q1 q2 q3 q4;have x2:=(MC.out.kept bI.out (by simp)).cell 0 _ rfl;have b1:=(cB.out.blk.kept zW.out (by simp)).cell 1 _ rfl;have hlen:=H.out.few;have hown:=fC.out.2.1;have HOW:=zh (cK hown zW.out (by simp));clear hown;go_wp2_with fail;clear x2 b1
    go_loopw [11,12,50] (fun _ _ i wr=>∃ k:Nat,i = .int .i64 k∧k≤W.order.length∧ae [] w6 wr ∧ ∀ (i:Nat) (x:Nm),i < k→W.order[i]?=some x → ∀ mn,W.M x=some mn→iB (ofM old) (fM m.name mn)=iB (ofM m) (fM m.name mn)) (fun _ _ i _=>W.order.length - (intOf i).toNat)
    case atStart=>exact⟨0,rfl,Nat.zero_le _,ae.refl _ _,fun i x hi=>by omega⟩
    case round=>
     obtain⟨k,rfl,hk,hc,hno⟩:=hrel;have pW:=zh hno;have HC:=zh hc;clear hno hc;by_cases hlt : k < W.order.length
     ·obtain⟨s,hs⟩ : ∃ s,W.order[k]?=some s:=⟨W.order[k],List.getElem?_eq_getElem hlt⟩
      obtain⟨mn,p8⟩:=Option.isSome_iff_exists.1 ((HI.out.order s).1 (List.mem_of_getElem? hs));obtain⟨bo,oo,hoa,hoc⟩ : ∃ bb off,oa=some ⟨bb,off,none⟩∧wr.cell? ⟨bb,off + k,none⟩=some (str s):=by
       obtain⟨a',c',he,_,hr⟩:=Row.jF (F:=fun _=>True) (cK HOW.out HC.out (by simp)) (fun _ _=>trivial);simp only [Value.slice.injEq] at he;obtain⟨rfl,_⟩:=he;have hl : k < (W.order.map str).length:=by simpa using hlt
       obtain⟨bb,off,rfl,hc⟩:=Dc hr hl;refine⟨bb,off,rfl,?_⟩;rw [hc];simp only [List.getElem_map];rw [List.getElem?_eq_getElem hlt,Option.some.injEq] at hs;rw [hs]
      subst hoa;have hqq:=fC.out.2.2.2.2.2.2 s;rw [p8] at hqq;obtain⟨hget,_,bvn,_,hpn⟩:=hqq;obtain⟨wE,bV⟩ : ∃ x,x=wr.drew:=⟨_,rfl⟩
      have fu:ae [] w6 wE:=HC.out.then (by rw [bV];exact(ae.refl [] wr).drew)
      have Iy:ae [] w wE:=zW.out.then fu
      have fJ:=zh fu;have Iz:=zh Iy;obtain⟨_,_,ain,cin,avn,cvn,apn,cpn,abn,cbn,fD,esn,hp3,MG,_,_,_⟩:=hpn.kept Iy (by simp);have Rt:=zh MG;have n0:=hp3.cell 0 _ rfl;have n1:=hp3.cell 1 _ rfl;have n2:=hp3.cell 2 _ rfl;have n3:=hp3.cell 3 _ rfl;have n4:=hp3.cell 4 _ rfl;have x2:=(MC.out.kept (bI.out.then fu) (by simp)).cell 0 _ rfl;have x3:=(xX.out.kept (bI.out.then fu) (by simp)).cell 0 _ rfl;have b0:=(cB.out.blk.kept Iy (by simp)).cell 0 _ rfl;have kV:=zh (fun w' (hc:ae [] wE w')=>(show (Instr.lookup 38 (.map (some bp)) (str s) false).run Tryz.prog w' = .ok (ptr (L.pb s)) w' by
       have hl:=jm (P:=Tryz.prog) Tryz.underlying38 Tryz.underlying9 (rR w') (fC.out.2.2.1.kept (Iz.out.then hc) (by simp)) s;rw [hget] at hl;exact hl))
      have hgn:=HI.out.ok.good s mn p8;have C9:=zh (ad9 mn hgn.1.few hgn.1.cnt m.name (fun x=>x < wE.heap.size) _ wE (fun x hx=>hx) (by
       refine MG.mono (fun x hx=>?_);have h1:=kM.out.fix x hx.1;have h2:=H.out.lt x h1;have:=Iz.out.size
       show x < _
       omega))
      have HS:=zh hs;have UA:=zh p8;have UC:=zh hgn;clear hs p8 hget hpn fu Iy hp3 MG hgn;go_wp2_with fail;refine ug [] rfl (by kernel_rfl) ?_;rw [← bV];clear bV hoc;have hS:ae [] wE wE:=ae.refl _ _
      repeat ((with_reducible refine gX ?_);(first|refine aM ?_|refine sK ?_|refine sM fun _ _=>?_|refine sL fun _ _=>?_|refine sE fun _ _=>?_);go_wp2_with fail)
      refine qW rfl rfl rfl rfl kV.out ?_;go_wp2_with fail
      repeat ((with_reducible refine gX ?_);(first|refine aM ?_|refine sK ?_|refine sM fun _ _=>?_|refine sL fun _ _=>?_|refine sE fun _ _=>?_);go_wp2_with fail)
      refine C9.out.mono ?_;rintro _ w7 ⟨u,rfl,hu,dQ⟩;have HU:=zh hu;have fF:=zh dQ;have xY:=fJ.out.then dQ
      have BD:=zh xY;have x3':=(xX.out.kept (bI.out.then xY) (by simp)).cell 0 _ rfl;obtain⟨su,hls,_,_,hsy⟩:=JW uP.out m.name;have vP:=hls w7 ((Ux.out.then (Uy.out)).then (BB.out.then xY));have hso : dP W.M m.name=some (ofM old):=by rw [dP,HOLD.out];rfl
      rw [hso] at hsy;simp only [Option.getD_some] at hsy;have hnl:=ael UC.out.1 m.name;have hns:=GZ m.name UC.out.1.wf;have zX:=zh (Uv (HI.out.ok.good m.name old HOLD.out).1 (fM m.name mn) hnl hns _ _ _ _ w7 B ((HL.out.kept (zW.out.then xY) (by simp))) (hsy.kept ((Ux.out.then (Uy.out)).then (BB.out.then xY)) (by simp)) hu);have UD:=zh (fun w8 (hc8:ae [] w7 w8)=>Uv gm.out (fM m.name mn) hnl hns _ _ _ _ w8 B ((HL.out.kept (zW.out.then (xY.then hc8)) (by simp))) (HNV.out.kept (xY.then hc8) (by simp)) (hu.kept hc8 (by simp)));obtain⟨t1,ht1⟩ : ∃ t,t=iB (ofM old) (fM m.name mn):=⟨_,rfl⟩
      obtain⟨t2,ht2⟩ : ∃ t,t=iB (ofM m) (fM m.name mn):=⟨_,rfl⟩
      rw [← ht1] at zX;simp only [← ht2] at UD;have HT1:=zh ht1;have HT2:=zh ht2;clear hS n0 n1 n2 n3 n4 x2 x3 b0 hu dQ xY hls hsy hso hnl hns ht1 ht2;go_wp2_with fail;refine And.intro fF.out ?_;have hS:=fF.out
      repeat ((with_reducible refine gX ?_);(first|refine aM ?_|refine sK ?_|refine sM fun _ _=>?_|refine sL fun _ _=>?_|refine sE fun _ _=>?_);go_wp2_with fail)
      refine zX.out.mono ?_;rintro _ w8 ⟨rfl,hc8⟩;have eU:=zh hc8;clear hS vP x3';go_wp2_with fail;refine(UD.out w8 eU.out).mono ?_;rintro _ w9 ⟨rfl,bN⟩;have dm:=zh (BD.out.then (eU.out.then bN));clear hc8 bN;cases hq : (t1 == t2) with
      | true=>
       have je : t1=t2:=by simpa using hq
       have aW:=zh je;clear je;go_wp2_with fail;refine⟨⟨k + 1,by go_num,by omega,dm.out,fun i x hi hx=>?_⟩,by simp [intOf];omega⟩;by_cases he : i < k
       ·exact pW.out i x he hx
       ·have : i=k:=by omega
        subst this;rw [HS.out] at hx;cases hx
        intro mn' UE;rw [UA.out] at UE;cases UE
        rw [← HT1.out,← HT2.out,aW.out]
      | false=>
       have hne : t1≠t2:=by simpa using hq
       have HR:=zh (aee HOLD.out sw.out Uz.out ⟨s,List.mem_of_getElem? HS.out,mn,UA.out,by rw [← HT1.out,← HT2.out];exact hne⟩).symm;clear hne;go_wp2_with fail;go_ret
       rw [← HR.out];exact xW.no H.out (zW.out.then dm.out) iZ.out rfl
     ·have HNS:=zh (show ¬ ∃ n∈W.order,∃ mn,W.M n=some mn∧iB (ofM old) (fM m.name mn)≠iB (ofM m) (fM m.name mn) from fun⟨n,hn,mn,p8,hne⟩=>by
       obtain⟨i,hi⟩:=List.getElem?_of_mem hn;exact hne (pW.out i n (by have:=(List.getElem?_eq_some_iff.1 hi).1;omega) hi mn p8))
      have HR:=zh (aef HOLD.out sw.out Uz.out HNS.out).symm;have h3:=xX.out.kept (bI.out.then HC.out) (by simp);have q0:=h3.cell 0 _ rfl;have q1:=h3.cell 1 _ rfl;have q2:=h3.cell 2 _ rfl;have q3:=h3.cell 3 _ rfl;have q4:=h3.cell 4 _ rfl;clear h3;have hcr:=zW.out.then HC.out
      have qU:=zh hcr;have aeu:=zh (RX m gm.out.wf.oF (fun g hg=>⟨(gm.out.wf.vars g hg).low,(gm.out.wf.vars g hg).high⟩) Gm ai ci av cv ap cp ab cb wr (by
       obtain⟨vi,vv,vp,vb,he,_,hgl,_⟩:=HM.out.kept hcr (by simp);cases he
       exact hgl) wr (ae.refl _ _))
      clear hcr;go_wp2_with fail;refine aeu.out.mono ?_;rintro _ w7 ⟨bv,au,ay,rfl,hbv,hva,dQ⟩;have aev:=zh (show (m.vars.map (·.name)).Nodup from(List.nodup_append.1 ((Check.kU _ _).1 sw.out.symm).2.1).1);have iJ:=zh hva;have Ee:=zh hbv;have fF:=zh dQ;clear hlt hk q0 q1 q2 q3 q4 hva hbv;have q2:=(xX.out.kept ((bI.out.then HC.out).then dQ) (by simp)).cell 2 _ rfl;have aew:=zh (bI.out.then HC.out);obtain⟨wL,zz⟩ : ∃ x,x=wr:=⟨_,rfl⟩
      subst zz;clear dQ HC pW;go_wp2_with fail;clear q2
      go_loopw [15,16,83] (fun _ _ i wr=>∃ k:Nat,i = .int .i64 k∧k≤m.vars.length∧qz wr wL.heap.size bv (qB (W.vs m.name) old.vars (m.vars.take k) m.vars) au ay∧ae [] wL wr) (fun _ _ i _=>m.vars.length - (intOf i).toNat)
      case atStart=>exact⟨0,rfl,Nat.zero_le _,by rw [List.take_zero,aeg];exact qz.of iJ.out,fF.out⟩
      case round=>
       obtain⟨k,rfl,hk,hv,hc⟩:=hrel;have HV:=zh hv;have HC:=zh hc;clear hv hc;have Lr:=gm.out.wf.oF;by_cases hlt : k < m.vars.length
       ·obtain⟨s,hs⟩ : ∃ s,m.vars[k]?=some s:=⟨m.vars[k],List.getElem?_eq_getElem hlt⟩
        obtain⟨bb,off,hav,d0,d1,d2,d3⟩ : ∃ bb off,av=some ⟨bb,off,none⟩∧wr.cell? ⟨bb,off + k * 4,none⟩=some (str s.name)∧wr.cell? ⟨bb,off + k * 4 + 1,none⟩=some (num s.pos)∧wr.cell? ⟨bb,off + k * 4 + 2,none⟩=some (num s.len)∧wr.cell? ⟨bb,off + k * 4 + 3,none⟩=some (.bool s.seen):=by
         obtain⟨vi,vv,vp,vb,he,_,⟨a',c',he2,hac,hrow⟩,_⟩:=(HM.out.kept qU.out (by simp)).kept HC.out (by simp);cases he
         cases he2
         exact Check.CY hrow hs
        subst hav;have hz:=ag.new wr #[str [],num 0,num 0,.bool false] 68;obtain⟨wA,az⟩ : ∃ wA,wr.alloc (.cells #[str [],num 0,num 0,.bool false] 68)=wA:=⟨_,rfl⟩
        rw [az] at hz;have hcA:ae [] wr wA:=by rw [← az];exact(ae.refl _ _).alloc _
        obtain⟨wF,hwF,aV,aG⟩:=Rx (str s.name) (num s.pos) (num s.len) (.bool s.seen) hz;have hcw:ae [] wr wF:=hcA.trans aV (fun x hx=>.inr (by simp at hx;omega));have g0:=hcA.aH d0 (by simp);have g1:=hcA.aH d1 (by simp);have g2:=hcA.aH d2 (by simp);have g3:=hcA.aH d3 (by simp);have z0:=hz.cell 0 _ rfl;have z1:=hz.cell 1 _ rfl;have z2:=hz.cell 2 _ rfl;have z3:=hz.cell 3 _ rfl;have y0:=hz.frozen 0;have y1:=hz.frozen 1;have y2:=hz.frozen 2;have y3:=hz.frozen 3;obtain⟨b15,MH⟩ : ∃ b,b=wr.heap.size:=⟨_,rfl⟩
        obtain⟨wE,bV⟩ : ∃ x,x=wF.drew:=⟨_,rfl⟩
        have MI:ae [] wF wE:=by rw [bV];exact(ae.refl [] wF).drew
        have IA:ae [] wr wE:=hcw.then MI
        have MJ:ag wE b15 #[str s.name,num s.pos,num s.len,.bool s.seen] 68:=by rw [MH];exact aG.kept MI (by simp)
        have UF:=zh MJ;have fJ:=zh IA;have UG:=zh (HC.out.then IA);have Iz:=zh (qU.out.then (HC.out.then IA));obtain⟨_,_,aio,cio,UH,UI,apo,cpo,abo,cbo,bvq,eso,hp3,UJ,_,UK,UL⟩:=ME.out.kept Iz.out (by simp);have n5:=hp3.cell 5 _ rfl;have n2:=hp3.cell 2 _ rfl;have f0:=MJ.cell 0 _ rfl;have kV:=zh (fun w' (hc:ae [] wE w')=>jm (P:=Tryz.prog) Tryz.underlying99 Tryz.underlying9 (Gj w') (UK.kept hc (by simp)) s.name);rw [UL s.name] at kV;have IB:=zh ((kM.out.home.dyn m.name s.name));have aeG:=zh (show lD wE (fun x=>L.Fix x∧(G x∨x=L.pb m.name∨x=TQ)) old.vars (.slice UH old.vars.length UI) by
         obtain⟨vi,vv,vp,vb,he,_,hg,_⟩:=UJ;cases he
         exact hg)
        have HS:=zh hs;clear hs hp3 UJ UK UL MI IA MJ hcw aV aG hcA hz;go_wp2_with fail;refine ug [] rfl (by decide +kernel) ?_;rw [← bV,← MH];clear bV az hwF MH d0 d1 d2 d3 g0 g1 g2 g3 z0 z1 z2 z3 y0 y1 y2 y3;have hS:ae [] wE wE:=ae.refl _ _
        repeat ((with_reducible refine gX ?_);(first|refine aM ?_|refine sK ?_|refine sM fun _ _=>?_|refine sL fun _ _=>?_|refine sE fun _ _=>?_);go_wp2_with fail)
        refine qW rfl rfl rfl rfl kV.out ?_;cases hd:L.au m.name s.name with
        | none=>
         rw [hd] at IB;have HKN:=zh (show (old.vars.any fun h=>h.name == s.name && h.len == s.len)=false by
          cases hq : (old.vars.any fun h=>h.name == s.name && h.len == s.len) with
          | false=>rfl
          | true=>
           obtain⟨l,hl,_⟩:=MB HI.out HOLD.out hq;rw [IB.out] at hl;cases hl)
         simp only [Option.map_none,Option.getD_none];clear hd;go_wp2_with fail
         repeat ((with_reducible refine gX ?_);(first|refine aM ?_|refine sK ?_|refine sM fun _ _=>?_|refine sL fun _ _=>?_|refine sE fun _ _=>?_);go_wp2_with fail)
         refine⟨⟨k + 1,by go_num,by omega,?_,UG.out⟩,by simp [intOf];omega⟩;rw [zo HS.out,Uu HKN.out];exact HV.out.kept fJ.out (by simp)
        | some x=>
         obtain⟨ao,ko⟩:=x;rw [hd] at IB;simp only [Option.map_some,Option.getD_some];clear hd;have IC:=zh (PX #[ptr b15] 55 (fun _ _=>rfl) old.vars (by have:=(HI.out.ok.good m.name old HOLD.out).1.wf.oF;omega) (fun x=>x.name == s.name && x.len == s.len) _ _ wE aeG.out (fun x hx w' hc=>ado s x b15 w' (UF.out.kept hc (by simp))));go_wp2_with fail
         repeat ((with_reducible refine gX ?_);(first|refine aM ?_|refine sK ?_|refine sM fun _ _=>?_|refine sL fun _ _=>?_|refine sE fun _ _=>?_);go_wp2_with fail)
         refine IC.out.mono ?_;rintro _ w8 ⟨rfl,hc8⟩;have eU:=zh hc8;have MK:=zh (UG.out.then hc8);have f0':=(UF.out.kept hc8 (by simp)).cell 0 _ rfl;clear hS f0 n5 n2 hc8;cases hq : (old.vars.any fun x=>x.name == s.name && x.len == s.len) with
         | false=>
          have HQ:=zh hq;clear hq;go_wp2_with fail;refine⟨⟨k + 1,by go_num,by omega,?_,MK.out⟩,by simp [intOf];omega⟩;rw [zo HS.out,Uu HQ.out];exact(HV.out.kept fJ.out (by simp)).kept eU.out (by simp)
         | true=>
          obtain⟨y,hy,hyl⟩:=aej HI.out HOLD.out aev.out (List.mem_of_getElem? HS.out) (l:=m.vars.take k) (fun x hx=>List.mem_of_mem_take hx);obtain⟨x,hx,hxl⟩:=MB HI.out HOLD.out hq;have BF:=(HV.out.kept fJ.out (by simp)).kept eU.out (by simp);obtain⟨esn,hme,hde⟩:=BF.map;have hin:=BF.is s.name;cases hdn : au s.name with
          | none=>rw [hdn,hy] at hin;cases hin
          | some z=>
           obtain⟨an,kn⟩:=z;rw [hdn] at hin;obtain⟨l',hl',hll,hbn⟩:=hin;rw [hy] at hl';cases hl'
           obtain⟨lo',UM,UN,uQ⟩:=IB.out;rw [hx] at UM;cases UM
           have hko : ko=x.length:=UN.symm;have hkn : kn=x.length:=by rw [hxl];exact hll.symm.trans hyl
           subst hko;have BG:=zh (show (Instr.lookup 99 (.map (some bv)) (str s.name) false).run Tryz.prog w8 = .ok (.slice (some ⟨an,0,none⟩) x.length x.length) w8 by
            have hl:=jm (P:=Tryz.prog) Tryz.underlying99 Tryz.underlying9 (Gj w8) hme s.name;rw [hde,hdn,hkn] at hl;exact hl)
           have hlv:=BG.out;obtain⟨w9,hcp,bN,bg⟩:=aeo 3 (uQ.kept (qU.out.then MK.out) (by simp)) hbn (by simp [hyl,hxl]);have dN:=zh bg;have dm:=zh bN;have HQ:=zh hq;have HX:=zh hx;have HDN:=zh (show au s.name=some (an,x.length) by rw [hdn,hkn]);have HV8:=zh BF;have HAN:=zh (show wL.heap.size≤an from(BF.low (BF.arr hdn).1).1);clear hq hy hyl hx hxl BF hme hde hdn hll hbn UN uQ hkn bg bN BG;go_wp2_with fail;refine⟨⟨k + 1,by go_num,by omega,?_,MK.out.trans dm.out (fun x hx=>.inr (by have:=HAN.out;simp at hx;omega))⟩,by simp [intOf];omega⟩;rw [zo HS.out,aeh HQ.out HX.out];exact HV8.out.put HDN.out dm.out rfl dN.out
       ·have hkn : k=m.vars.length:=by omega
        have UO:=zh (show qz wr wL.heap.size bv (jD W.vs old m m.name) au ay by
         have:=HV.out
         rwa [List.take_of_length_le (by omega),aei] at this)
        have ML:=zh (qU.out.then HC.out);obtain⟨_,_,aio,cio,UH,UI,apo,cpo,abo,cbo,bvq,eso,hp3,_⟩:=ME.out.kept ML.out (by simp);have h3:=xX.out.kept (aew.out.then HC.out) (by simp);have q0:=h3.cell 0 _ rfl;have q1:=h3.cell 1 _ rfl;have q2:=h3.cell 2 _ rfl;have q3:=h3.cell 3 _ rfl;have q4:=h3.cell 4 _ rfl;have z0:=hp3.cell 0 _ rfl;have z1:=hp3.cell 1 _ rfl;have z2:=hp3.cell 2 _ rfl;have z3:=hp3.cell 3 _ rfl;have z4:=hp3.cell 4 _ rfl;have z5:=hp3.cell 5 _ rfl;have y0:=hp3.frozen 0;have y1:=hp3.frozen 1;have y2:=hp3.frozen 2;have y3:=hp3.frozen 3;have y4:=hp3.frozen 4;have y5:=hp3.frozen 5;obtain⟨wS,gT,eX,hbS⟩:=aep (str m.name) (.slice ai m.imports.length ci) (.slice av m.vars.length cv) (.slice ap m.procs.length cp) (.slice ab m.body.len cb) (.map (some bv)) hp3;have jk:=zh eX;have jP:=zh hbS;clear h3 hp3 eX hbS;go_wp2_with fail;go_ret
        rw [← HR.out];have hwr:=ML.out.size;have hwl:=qU.out.size;have hpo:Own (L.pb m.name):=by
         have hqq:=fC.out.2.2.2.2.2.2 m.name;rw [HOLD.out] at hqq;exact hqq.2.1
        have hpl:L.pb m.name < w.heap.size:=H.out.lt _ (.inl hpo);have eX:ae [L.pb m.name] w wS:=(ML.out.weak).then jk.out
        have aiT:=Ee.out;have EC:=UO.out.kept jk.out (fun x hx=>by
         simp only [List.mem_singleton] at hx;subst hx;refine⟨by omega,fun hm=>?_⟩;have:=(UO.out.low hm).1;omega)
        have aeL:qz wS w.heap.size bv (jD W.vs old m m.name) au ay:=⟨EC.map,EC.inj,EC.arr,fun ha=>by obtain⟨h1,h2,h3⟩:=EC.low ha;exact⟨by omega,h2,h3⟩,EC.is⟩;have hgl:=fun x hx=>(iZ.out x hx)
        refine⟨_,rfl,rfl,⟨.inl H.out.own,fun x hx=>?_,fun x hx hx2=>?_,fun q mq hq=>?_,H.out.few,.inr ⟨_,Has.swap kM.out (fun x hx=>⟨H.out.zG x hx,fun hg=>(hgl x hg).2 hx⟩) (fun x hx=>?_) (Nat.le_refl _) HOLD.out gm.out.few fC.out eX jP.out (HM.out.kept eX (fun x hx hg=>?_)) aeL (by omega) (fun x hx=>.inl hx) (fun x h1 h2=>.inr ⟨h1,h2⟩)⟩⟩,⟨_,eX,fun x hx=>by simp only [List.mem_singleton] at hx;subst hx;exact hpo⟩⟩
        ·have hs:=eX.size
         rcases hx with(hx|hx)|(hx|hx)
         ·have:=H.out.lt x (.inl hx);omega
         ·exact hx.2
         ·have:=H.out.lt x (.inr hx);omega
         ·have:=(hgl x hx).1;omega
        ·rcases hx with hx|hx <;> rcases hx2 with h2|h2
         ·exact H.out.zG x hx h2
         ·exact(hgl x h2).2 hx
         ·have:=H.out.lt x (.inr h2);omega
         ·have:=(hgl x h2).1;omega
        ·simp only [bT] at hq
         split at hq
         ·next e=>cases hq;exact⟨gm.out,e.symm⟩
         ·exact H.out.good q mq hq
        ·rcases hx with hx|hx|hx
         ·exact H.out.lt x (.inl hx)
         ·exact H.out.lt x (.inr hx)
         ·exact(hgl x hx).1
        ·simp only [List.mem_singleton] at hx
         subst hx;exact(hgl _ hg).2 hpo
end Go.Proofs.YtechofppmnnomaaGreatDoor
namespace Go.Mq.Run
open Go Go.RowKit Go.Mq Go.Mq.Tree Go.Mq.Sym
open Go.Mq.Check (check Out)
def UQ:Out→Bool
 | .fine=>true
 | _=>false
theorem aeM : (match parse [109,111,100,117,108,101,32,109,59,32,118,97,114,32,120,58,32,105,110,116,59,32,112,114,111,99,32,102,42,40,97,41,59,32,98,101,103,105,110,32,120,32,58,61,32,120,32,43,32,97,59,32,114,101,116,117,114,110,32,120,32,42,32,50,59,32,101,110,100,59,32,98,101,103,105,110,32,119,114,105,116,101,32,102,40,51,41,59,32,101,110,100,46] with
  | .ok m=>match mi 30 Wd.zero m 100 with
   | some r=>r.2.1 == 1 && r.2.2.1 == [6] && UQ r.2.2.2 && match mF 30 r.1 [109] [102] [4] 100 with
    | some c=>c.2.1 == 1 && c.2.2.2.1 == 14 && UQ c.2.2.2.2
    | none=>false
   | none=>false
  | .bad _ _=>false)=true:=by
 decide +kernel
theorem aeN : ∃ m,parse [109,111,100,117,108,101,32,109,59,32,118,97,114,32,120,58,32,105,110,116,59,32,112,114,111,99,32,102,42,40,97,41,59,32,98,101,103,105,110,32,120,32,58,61,32,120,32,43,32,97,59,32,114,101,116,117,114,110,32,120,32,42,32,50,59,32,101,110,100,59,32,98,101,103,105,110,32,119,114,105,116,101,32,102,40,51,41,59,32,101,110,100,46] = .ok m ∧ ∃ W1 W2 out,mi 30 Wd.zero m 100=some (W1,1,[6],.fine)∧mF 30 W1 [109] [102] [4] 100=some (W2,1,out,14,.fine):=by
 have h:=aeM;split at h
 ·rename_i m hm
  refine⟨m,hm,?_⟩;split at h
  ·rename_i r hr
   obtain⟨W1,way,out,o⟩:=r;simp only [Bool.and_eq_true,beq_iff_eq] at h;obtain⟨⟨⟨rfl,rfl⟩,ho⟩,h⟩:=h;split at h
   ·rename_i c hc
    obtain⟨W2,aiU,aeO,n,o2⟩:=c;simp only [Bool.and_eq_true,beq_iff_eq] at h;obtain⟨⟨rfl,rfl⟩,ho2⟩:=h;refine⟨W1,W2,aeO,?_,?_⟩
    ·cases o with
     | fine=>exact hr
     | plain e=>cases ho
     | at_ e p=>cases ho
    ·cases o2 with
     | fine=>exact hc
     | plain e=>cases ho2
     | at_ e p=>cases ho2
   ·cases h
  ·cases h
 ·cases h
theorem dZ.new {w:World} {bw:Nat} (h:ag w bw #[.map none,ah] 40):dZ w (fun x=>x=bw) (fun _=>False) bw Wd.zero:=
 ⟨rfl,fun x hx=>by rcases hx with rfl|hx;exact h.lt;exact hx.elim,fun _ _ h=>h,fun _ _ h=>(by cases h),by simp [Wd.zero],.inl ⟨rfl,h⟩⟩
theorem vF.new {w w1 w2:World} {Own:Nat→Prop} (h:vF Own w1 w2) (hc:ae [] w w1) (hO : ∀ x,Own x→w.heap.size≤x):ae [] w w2:=by
 obtain⟨Z,hz,hZ⟩:=h;exact hc.trans hz (fun x hx=>.inr (hO x (hZ x hx)))
end Go.Mq.Run
namespace Go.Proofs.YtechofppmnnomaaGreatDoor
open Go Go.RowKit Go.Mq Go.Mq.Tree Go.Mq.Sym Go.Mq.Run
open Go.Mq.Check (check Out)
set_option maxRecDepth 100000
set_option maxHeartbeats 4000000
theorem aeP (w:World) (B:Nat) (hL:Laid w B):Calls Tryz.prog 9 #[] w (Holds w):=by
 obtain⟨m,hm,W1,W2,out,hl,hcl⟩:=aeN;have hgood:=G5 (t:=[109,111,100,117,108,101,32,109,59,32,118,97,114,32,120,58,32,105,110,116,59,32,112,114,111,99,32,102,42,40,97,41,59,32,98,101,103,105,110,32,120,32,58,61,32,120,32,43,32,97,59,32,114,101,116,117,114,110,32,120,32,42,32,50,59,32,101,110,100,59,32,98,101,103,105,110,32,119,114,105,116,101,32,102,40,51,41,59,32,101,110,100,46]) (by decide) hm;have hP:=Cs [109,111,100,117,108,101,32,109,59,32,118,97,114,32,120,58,32,105,110,116,59,32,112,114,111,99,32,102,42,40,97,41,59,32,98,101,103,105,110,32,120,32,58,61,32,120,32,43,32,97,59,32,114,101,116,117,114,110,32,120,32,42,32,50,59,32,101,110,100,59,32,98,101,103,105,110,32,119,114,105,116,101,32,102,40,51,41,59,32,101,110,100,46] (by decide) w B hL;rw [hm] at hP;have HP:=zh hP;have yU:=zh hl;have cZ:=zh hcl;have gm:=zh hgood;clear hP hm hl hcl hL hgood
 go_enter Tryz.func9,Tryz.ntmps9
 go_wp2_with fail;refine HP.out.mono ?_;rintro _ w1 ⟨hc1,v,rfl,hmod⟩;have j6:=zh hmod;obtain⟨BH,BI,BJ,BK,BL,BM,BN,BO,rfl,hgv,hpv⟩:=xc hmod;have hz:=ag.new w1 #[str [],ah,ah,ah,ah] 32;obtain⟨wA,az⟩ : ∃ w',w1.alloc (.cells #[str [],ah,ah,ah,ah] 32)=w':=⟨_,rfl⟩
 rw [az] at hz;have hcA:ae [] w1 wA:=by rw [← az];exact(ae.refl _ _).alloc _
 obtain⟨wF,hwF,aV,aG⟩:=sV (str m.name) (.slice BH m.imports.length BI) (.slice BJ m.vars.length BK) (.slice BL m.procs.length BM) (.slice BN m.body.len BO) hz;have fH:ae [] w1 wF:=hcA.trans aV (fun x hx=>.inr (by simp at hx;omega));have z0:=hz.cell 0 _ rfl;have z1:=hz.cell 1 _ rfl;have z2:=hz.cell 2 _ rfl;have z3:=hz.cell 3 _ rfl;have z4:=hz.cell 4 _ rfl;have y0:=hz.frozen 0;have y1:=hz.frozen 1;have y2:=hz.frozen 2;have y3:=hz.frozen 3;have y4:=hz.frozen 4;obtain⟨wW,IE⟩ : ∃ x,wF.alloc (.cells #[.map none,ah] 40)=x:=⟨_,rfl⟩
 have hbW:ag wW wF.heap.size #[.map none,ah] 40:=by rw [← IE];exact ag.new wF _ _
 have hcW:ae [] wF wW:=by rw [← IE];exact(ae.refl _ _).alloc _
 have hsW : wW.heap.size=wF.heap.size + 1:=by rw [← IE];simp
 have UR:ae [] w wW:=hc1.then (fH.then hcW)
 have hx:=aG.kept hcW (by simp);have x0:=hx.cell 0 _ rfl;have x1:=hx.cell 1 _ rfl;have x2:=hx.cell 2 _ rfl;have x3:=hx.cell 3 _ rfl;have x4:=hx.cell 4 _ rfl;have UT:gY wW (New w w1) m (.agg #[str m.name,.slice BH m.imports.length BI,.slice BJ m.vars.length BK,.slice BL m.procs.length BM,.slice BN m.body.len BO]):=(j6.out.kept (fH.then hcW) (by simp)).mono (fun x hx=>hx);have hs1:=hc1.size;have hsG:=fH.size;have HLD:=zh (RY 30 (dZ.new hbW) UT (fun x hx=>⟨by have:=hx.2;omega,fun e=>by have:=hx.2;omega⟩) gm.out (by decide : (100:Nat)≤9223372036854775807) yU.out);have aC:=zh UR;have sH:=zh (show w.heap.size≤wF.heap.size∧wW.heap.size=wF.heap.size + 1 by omega);clear hc1 hz hcA aV aG fH hbW hcW hsW UR UT hs1 hsG hx hmod hgv hpv;go_wp2_with fail;clear az hwF IE z0 z1 z2 z3 z4 y0 y1 y2 y3 y4 x0 x1 x2 x3 x4;refine HLD.out.mono ?_;rintro _ w2 ⟨ve,vo,rfl,hev,pE,nY,hch⟩;obtain⟨ov,rfl,hov,_⟩:=hev;obtain⟨ea,ec,rfl⟩:=gu hov;simp only [ql] at pE;subst pE;have UU:ae [] w w2:=hch.new aC.out (fun x hx=>by have:=sH.out;omega);obtain⟨wI,MM⟩ : ∃ x,w2.alloc (.cells #[num 0,ah] 43)=x:=⟨_,rfl⟩
 have kr:ag wI w2.heap.size #[num 0,ah] 43:=by rw [← MM];exact ag.new w2 _ _
 have hcI:ae [] w2 wI:=by rw [← MM];exact(ae.refl _ _).alloc _
 have i0:=kr.cell 0 _ rfl;have i1:=kr.cell 1 _ rfl;have j0:=kr.frozen 0;have j1:=kr.frozen 1;obtain⟨wJ,hwJ,IG,hcJ⟩:=mD 1 (.slice ea 1 ec) kr;have UW:ae [] w2 wJ:=hcI.trans hcJ (fun x hx=>.inr (by simp at hx;omega));have k0:=IG.cell 0 _ rfl;have k1:=IG.cell 1 _ rfl;obtain⟨wK,xB⟩ : ∃ x,wJ.alloc (.cells #[num 6] bO)=x:=⟨_,rfl⟩
 have UX:ag wK wJ.heap.size #[num 6] bO:=by rw [← xB];exact ag.new wJ _ _
 have hcK:ae [] wJ wK:=by rw [← xB];exact(ae.refl _ _).alloc _
 have MN:ae [] w2 wK:=UW.then hcK
 have MO:=zh (show Calls Tryz.prog 18 #[.slice ea 1 ec,.slice (some ⟨wJ.heap.size,0,none⟩) 1 1] wK (fun e w'=>e = .returned (.bool true)∧ae [] wK w') from by
  obtain⟨a',c',he,_,hr⟩:=Row.jF (F:=fun _=>True) hov (fun _ _=>trivial);cases he
  exact TK [6] [6] (by decide) (by decide) _ _ _ 1 (fun _=>True) (fun _=>True) wK (hr.kept MN (by simp)) ⟨fun _=>⟨_,0,rfl,fun i x hx=>by rw [Nat.zero_add];exact UX.cell i x (by simpa using hx)⟩,fun _ _ _=>trivial⟩)
 have vQ:=zh nY;have MP:=zh UU;have UY:=zh MN;have Dw:=zh (IG.kept hcK (by simp));clear hov hch nY UU kr hcI IG hcJ UW UX hcK MN;go_wp2_with fail;refine MO.out.mono ?_;rintro _ w5 ⟨rfl,bC⟩;clear MM hwJ xB i0 i1 j0 j1 k0 k1;obtain⟨wL,zz⟩ : ∃ x,w5.alloc (.cells #[num 4] bO)=x:=⟨_,rfl⟩
 have hbL:ag wL w5.heap.size #[num 4] bO:=by rw [← zz];exact ag.new w5 _ _
 have MQ:ae [] w5 wL:=by rw [← zz];exact(ae.refl _ _).alloc _
 have MR:ae [] w2 wL:=UY.out.then (bC.then MQ)
 have hs5 : w2.heap.size≤w5.heap.size:=(UY.out.then bC).size;have hsL:=hbL.lt;have HWC:=zh (show Calls Tryz.prog 31 #[ptr wF.heap.size,.string ⟨#[109]⟩,.string ⟨#[102]⟩,.slice (some ⟨w5.heap.size,0,none⟩) 1 1,num 100] wL _ from
  TB 30 (q:=[109]) (n:=[102]) (args:=[4]) (fuel:=100) (a:=some ⟨w5.heap.size,0,none⟩) (c:=1) (vQ.out.kept MR (by simp)) (Ga:=fun x=>x=w5.heap.size) ⟨fun _=>⟨_,0,rfl,fun i x hx=>by rw [Nat.zero_add];exact hbL.cell i x (by simpa using hx)⟩,fun _ p hp=>by cases hp;rfl⟩ (fun x hx=>⟨by omega,fun ho=>by
   rcases ho with e|e
   ·have:=sH.out;have:=MP.out.size;have:=vQ.out.lt _ (.inl (.inl rfl));omega
   ·omega⟩) (by decide) (by decide) cZ.out)
 have hbe:=Dw.out.kept (bC.then MQ) (by simp);have gZ:=zh hbe;have HL2:=zh MR;clear bC hbL MQ MR hs5 hsL hbe;go_wp2_with fail;refine HWC.out.mono ?_;rintro _ w9 ⟨ve,vo,rfl,hev,pE,nY,hch⟩;obtain⟨ov,rfl,hov,_⟩:=hev;obtain⟨fa,fc,rfl⟩:=gu hov;simp only [ql] at pE;subst pE;clear zz;have iR:ag w9 w2.heap.size #[num 1,.slice ea 1 ec] 43:=by
  obtain⟨Z,hz,hZ⟩:=hch;refine gZ.out.kept hz (fun hm=>?_);rcases hZ _ hm with e|e
  ·have:=sH.out;have:=vQ.out.lt _ (.inl (.inl rfl));omega
  ·omega
 have i0:=iR.cell 0 _ rfl;have i1:=iR.cell 1 _ rfl;have j0:=iR.frozen 0;have j1:=iR.frozen 1;obtain⟨wS,gT,hbS,eX⟩:=mD 1 (.slice fa out.length fc) iR;have k0:=hbS.cell 0 _ rfl;have k1:=hbS.cell 1 _ rfl;have Jo:=zh (show ae [] w wS from(hch.new (MP.out.then HL2.out) (fun x hx=>by
  rcases hx with e|e
  ·have:=sH.out;omega
  ·have:=sH.out;omega)).trans eX (fun x hx=>.inr (by simp at hx;have:=MP.out.size;omega)))
 clear iR hbS eX hov nY hch;simp only;go_wp2_with fail;go_ret
 exact⟨rfl,Jo.out⟩
end Go.Proofs.YtechofppmnnomaaGreatDoor
namespace Go.Proofs.YtechofppmnnomaaGreatDoor
open Go Go.RowKit Go.Mq Go.Mq.Tree Go.Mq.Sym Go.Mq.Run
open Go.Mq.Check (check Out)
set_option maxRecDepth 100000
set_option maxHeartbeats 4000000
theorem UZ {w w':World} {o:Out} {v:Value} {Z:List Nat} (h:ql w o v) (hc:ae Z w w') (hZ : ∀ x∈Z,∃ a b t,ag w x #[.map a,b] t):ql w' o v:=by
 cases o with
 | fine=>exact h
 | plain n=>exact h
 | at_ en p=>
  obtain⟨b,h1,h2⟩:=h;refine⟨b,h1,h2.kept hc fun hm=>?_⟩;obtain⟨x,y,t,hb⟩:=hZ b hm
  unfold ag at h2 hb
  rw [hb] at h2;simp at h2
end Go.Proofs.YtechofppmnnomaaGreatDoor
namespace Go.Proofs.YtechofppmnnomaaGreatDoor
open Go Go.RowKit Go.Mq Go.Mq.Tree Go.Mq.Sym Go.Mq.Run
open Go.Mq.Check (check Out)
set_option maxRecDepth 100000
set_option maxHeartbeats 4000000
def ED (w:World) (Own G:Nat→Prop) (bw:Nat) (r:Wd × Nat × List Int × Int × Int) (e:Ending) (w':World):Prop:=
 ∃ (ve:Value) (Own' G':Nat→Prop),e = .returned (.tuple #[ve,num r.2.2.2.1,num r.2.2.2.2])∧DL w' w.heap.size r.2.1 r.2.2.1 ve∧dZ w' Own' G' bw r.1∧(∀ x,Own' x→Own x∨w.heap.size≤x)∧(∀ x,G' x→G x∨w.heap.size≤x)∧vF Own w w'
theorem aeV {w:World} {Own G F:Nat→Prop} {bw:Nat} {W:Wd} {x:Ac} {g fuel:Nat} {r:Wd × Nat × List Int × Int × Out} (h:dZ w Own G bw W) (hE:kH w) (nz : ¬ Own 0) (ha:Row w F x.ad (ints x.args)) (hF : ∀ y,F y→y < w.heap.size∧¬ Own y) (h10 : x.args.length≤10) (hfu : fuel≤1000000) (hw : x.what=1) (hr : mF g W x.name x.proc x.args fuel=some r) :
  Calls Tryz.prog 23 #[ptr bw,.agg #[num x.what,str x.text,str x.name,str x.proc,.slice x.ad x.args.length x.cap],num fuel] w (ED w Own G bw (r.1,r.2.1,r.2.2.1,r.2.2.2.1,ku r.2.2.2.2)):=by
 rw [hw];obtain⟨w4,hw4⟩ : ∃ y,w.alloc (.cells #[num 1,str x.text,str x.name,str x.proc,.slice x.ad x.args.length x.cap] 57)=y:=⟨_,rfl⟩
 have hb4:ag w4 w.heap.size #[num 1,str x.text,str x.name,str x.proc,.slice x.ad x.args.length x.cap] 57:=by rw [← hw4];exact ag.new w _ _
 have hc4:ae [] w w4:=by rw [← hw4];exact(ae.refl _ _).alloc _
 have hs4 : w4.heap.size=w.heap.size + 1:=by rw [← hw4];simp
 obtain⟨w6,iq⟩ : ∃ y,w4.alloc (.cells #[num 0,ah] 43)=y:=⟨_,rfl⟩
 have hb6:ag w6 w4.heap.size #[num 0,ah] 43:=by rw [← iq];exact ag.new w4 _ _
 have hc6:ae [] w4 w6:=by rw [← iq];exact(ae.refl _ _).alloc _
 have hs6 : w6.heap.size=w4.heap.size + 1:=by rw [← iq];simp
 have lu:=hb4.kept hc6 (by simp);have x0:=lu.cell 0 _ rfl;have x2:=lu.cell 2 _ rfl;have x3:=lu.cell 3 _ rfl;have x4:=lu.cell 4 _ rfl;have hcw:=hc4.then hc6
 have rX:=zh (TB g (a:=x.ad) (c:=x.cap) (h.kept hcw (by simp)) (Ga:=F) (ha.kept hcw (by simp)) (fun y hy=>⟨by have:=(hF y hy).1;omega,(hF y hy).2⟩) (by omega) (by omega) hr);have lS:=zh hb6;have bI:=zh hcw;have jM:=zh (show w4.heap.size=w.heap.size + 1∧w6.heap.size=w.heap.size + 2 by omega);have H:=zh h;have sI:=zh (hE.kept hcw (by simp));have qm:=zh nz;clear h ha hF hb4 hc4 hs4 hb6 hc6 hs6 lu hcw hr hE nz
 go_enter Tryz.func23,Tryz.ntmps23
 go_wp2_with fail;refine rX.out.mono ?_;rintro _ w7 ⟨ve,vo,rfl,hev,pE,nY,hch⟩;obtain⟨ov,rfl,hov,hof⟩:=hev;obtain⟨ea,ec,rfl⟩:=gu hov;obtain⟨Z,hz,hZ⟩:=hch;have hlt:=fun y (hy:Own y)=>H.out.lt y (.inl hy)
 have EE:=lS.out.kept hz (fun hm=>by have:=hlt _ (hZ _ hm);have:=jM.out;omega);obtain⟨w8,hw8⟩ : ∃ y,w7.alloc (.cells #[num 0,ah] 43)=y:=⟨_,rfl⟩
 have eD:ag w8 w7.heap.size #[num 0,ah] 43:=by rw [← hw8];exact ag.new w7 _ _
 have hc8:ae [] w7 w8:=by rw [← hw8];exact(ae.refl _ _).alloc _
 have i0:=eD.cell 0 _ rfl;have i1:=eD.cell 1 _ rfl;have j0:=eD.frozen 0;have j1:=eD.frozen 1;obtain⟨w9,EF,bg,bN⟩:=mD r.2.1 (.slice ea r.2.2.1.length ec) eD;have EG:ae [] w7 w9:=hc8.trans bN (fun x hx=>.inr (by simp at hx;omega));obtain⟨wE,bV⟩ : ∃ y,y=w9.drew:=⟨_,rfl⟩
 have zY:ae [] w9 wE:=by rw [bV];exact(ae.refl [] w9).drew
 have sJ:=EG.then zY
 have zZ:=bg.kept zY (by simp);have k0:=zZ.cell 0 _ rfl;have k1:=zZ.cell 1 _ rfl;have hne : w7.heap.size≠w4.heap.size:=by have:=hz.size;have:=jM.out;omega
 have df:=zh hne;have Z1:=zh (bZ.of (X:=[w4.heap.size]) (w0:=wE) k0 (by simpa using hne));have Z2:=zh (bZ.of (X:=[w4.heap.size]) (w0:=wE) k1 (by simpa using hne));have EH:=((sI.out.kept hz (fun hm=>qm.out (hZ _ hm))).kept sJ (by simp));have HT:=zh (Es EH (UZ pE sJ (fun x hx=>by cases hx)));have EI:=zh (EE.kept sJ (by simp));have HZ:=zh hZ;have EJ:=zh hz;have EK:=zh sJ;have xL:=zh hov;have nN:=zh hof;have vQ:=zh nY;clear hz hZ hlt EE eD hc8 bg bN EG zY sJ zZ EH pE nY hov hof hne;go_wp2_with fail;refine ug [w4.heap.size] rfl (by decide +kernel) ?_;rw [← bV];clear hw4 iq hw8 EF bV i0 i1 j0 j1 x0 x2 x3 x4;have hS:ae [w4.heap.size] wE wE:=ae.refl _ _
 repeat ((with_reducible refine gX ?_);(first|refine aM ?_|refine sK ?_|refine sM fun _ _=>?_|refine sL (hz:=by first|exact Z1.out|exact Z2.out) fun _ _=>?_|refine sE fun _ _=>?_);go_wp2_with fail)
 refine HT.out.mono ?_;rintro _ wT ⟨rfl,ji⟩;have fO:=zh ji;clear ji hS;have iw:=EI.out.kept fO.out (by simp);have z0:=iw.cell 0 _ rfl;have z1:=iw.cell 1 _ rfl;have y0:=iw.frozen 0;have y1:=iw.frozen 1;obtain⟨wS,gT,hbS,eX⟩:=mD r.2.1 (.slice ea r.2.2.1.length ec) iw;have jP:=zh hbS;have jk:=zh eX;clear iw hbS eX;go_wp2_with fail;refine And.intro fO.out.weak ?_;have hS:ae [w4.heap.size] wE wT:=fO.out.weak
 repeat ((with_reducible refine gX ?_);(first|refine aM ?_|refine sK ?_|refine sM fun _ _=>?_|refine sL (hz:=by first|exact Z1.out|exact Z2.out) fun _ _=>?_|refine sE fun _ _=>?_);go_wp2_with fail)
 clear hS gT;refine And.intro (fO.out.weak.then jk.out) ?_;have hS:ae [w4.heap.size] wE wS:=fO.out.weak.then jk.out
 have q0:=jP.out.cell 0 _ rfl;have q1:=jP.out.cell 1 _ rfl
 repeat ((with_reducible refine gX ?_);(first|refine aM ?_|refine sK ?_|refine sM fun _ _=>?_|refine sL (hz:=by first|exact Z1.out|exact Z2.out) fun _ _=>?_|refine sE fun _ _=>?_);go_wp2_with fail)
 go_wp2_with fail;refine bodyPost_ret (v:=.tuple #[.agg #[num r.2.1,.slice ea r.2.2.1.length ec],num r.2.2.2.1,num (ku r.2.2.2.2)]) (by simp [results,Tryz.results23,go_sem,q0,q1]) rfl ?_;have hsz:=jM.out;have sN:ae [w4.heap.size] w7 wS:=(EK.out.weak.then fO.out.weak).then jk.out
 refine⟨_,More Own w6 w7,G,rfl,⟨_,rfl,cK xL.out sN (fun y hy hm=>?_),fun y hy=>?_⟩,vQ.out.kept sN (fun y hy=>?_),fun y hy=>?_,fun y hy=>.inl hy,Z,((bI.out.weak.then EJ.out).then EK.out.weak).trans (fO.out.weak.then jk.out) (fun y hy=>.inr ?_),HZ.out⟩
 ·simp only [List.mem_singleton] at hm
  have:=nN.out y hy;omega
 ·have:=nN.out y hy
  omega
 ·simp only [List.mem_singleton] at hy
  subst hy;refine⟨fun ho=>?_,fun hg=>?_⟩
  ·rcases ho with ho|ho
   ·have:=H.out.lt _ (.inl ho);omega
   ·omega
  ·have:=H.out.lt _ (.inr hg);omega
 ·rcases hy with hy|hy
  ·exact .inl hy
  ·exact .inr (by omega)
 ·simp only [List.mem_singleton] at hy
  omega
end Go.Proofs.YtechofppmnnomaaGreatDoor
namespace Go.Proofs.YtechofppmnnomaaGreatDoor
open Go Go.RowKit Go.Mq Go.Mq.Tree Go.Mq.Sym Go.Mq.Run
open Go.Mq.Check (check Out)
set_option maxRecDepth 100000
set_option maxHeartbeats 4000000
theorem aeW {w:World} {Own G:Nat→Prop} {bw B fuel en p:Nat} {W:Wd} {x:Ac} (h:dZ w Own G bw W) (hL:Laid w B) (hE:kH w) (hw : x.what≠1) (ht : x.text.length≤1000) (hp : parse x.text = .bad en p) :
  Calls Tryz.prog 23 #[ptr bw,.agg #[num x.what,str x.text,str x.name,str x.proc,.slice x.ad x.args.length x.cap],num fuel] w (ED w Own G bw (W,0,[],0,en)):=by
 obtain⟨wh,EL⟩ : ∃ y,y=x.what:=⟨_,rfl⟩
 rw [← EL] at hw ⊢;have hq : (wh == 1)=false:=by simpa using hw
 obtain⟨w4,hw4⟩ : ∃ y,w.alloc (.cells #[num wh,str x.text,str x.name,str x.proc,.slice x.ad x.args.length x.cap] 57)=y:=⟨_,rfl⟩
 have hb4:ag w4 w.heap.size #[num wh,str x.text,str x.name,str x.proc,.slice x.ad x.args.length x.cap] 57:=by rw [← hw4];exact ag.new w _ _
 have hc4:ae [] w w4:=by rw [← hw4];exact(ae.refl _ _).alloc _
 have hs4 : w4.heap.size=w.heap.size + 1:=by rw [← hw4];simp
 obtain⟨w6,iq⟩ : ∃ y,w4.alloc (.cells #[num 0,ah] 43)=y:=⟨_,rfl⟩
 have hb6:ag w6 w4.heap.size #[num 0,ah] 43:=by rw [← iq];exact ag.new w4 _ _
 have hc6:ae [] w4 w6:=by rw [← iq];exact(ae.refl _ _).alloc _
 have hs6 : w6.heap.size=w4.heap.size + 1:=by rw [← iq];simp
 have lu:=hb4.kept hc6 (by simp);have x0:=lu.cell 0 _ rfl;have x1:=lu.cell 1 _ rfl;have hcw:=hc4.then hc6
 have hP:=Cs x.text (by omega) w6 B (hL.kept hcw (by simp));rw [hp] at hP;have HP:=zh hP;have lS:=zh hb6;have bI:=zh hcw;have jM:=zh (show w4.heap.size=w.heap.size + 1∧w6.heap.size=w.heap.size + 2 by omega);have H:=zh h;have sI:=zh (hE.kept hcw (by simp));clear h hb4 hc4 hs4 hb6 hc6 hs6 lu hcw hE hL hP hp hw EL
 go_enter Tryz.func23,Tryz.ntmps23
 go_wp2_with fail;refine HP.out.mono ?_;rintro _ w1 ⟨hc1,b,rfl,_,hbe⟩;have cZ:=zh hc1;have hz:=ag.new w1 #[str [],ah,ah,ah,ah] 32;obtain⟨wA,az⟩ : ∃ w',w1.alloc (.cells #[str [],ah,ah,ah,ah] 32)=w':=⟨_,rfl⟩
 rw [az] at hz;have hcA:ae [] w1 wA:=by rw [← az];exact(ae.refl _ _).alloc _
 obtain⟨wF,hwF,aV,aG⟩:=sV (str []) (ah) (ah) (ah) (ah) hz;have aO:ae [] w1 wF:=hcA.trans aV (fun x hx=>.inr (by simp at hx;omega));have HCa:=zh aO;have z0:=hz.cell 0 _ rfl;have z1:=hz.cell 1 _ rfl;have z2:=hz.cell 2 _ rfl;have z3:=hz.cell 3 _ rfl;have z4:=hz.cell 4 _ rfl;have y0:=hz.frozen 0;have y1:=hz.frozen 1;have y2:=hz.frozen 2;have y3:=hz.frozen 3;have y4:=hz.frozen 4;have HT:=zh (Es (o:=.at_ en p) (v:=.iface 140 (ptr b)) (w:=wF) ((sI.out.kept hc1 (by simp)).kept aO (by simp)) ⟨b,rfl,hbe.kept aO (by simp)⟩);have EM:=zh ((lS.out.kept hc1 (by simp)).kept aO (by simp));clear hcA aV aG hz hc1 aO hbe;go_wp2_with fail;clear hw4 iq az hwF z0 z1 z2 z3 z4 y0 y1 y2 y3 y4 x0 x1;refine HT.out.mono ?_;rintro _ wT ⟨rfl,ji⟩;have fO:=zh ji;have iw:=EM.out.kept ji (by simp);have z0:=iw.cell 0 _ rfl;have z1:=iw.cell 1 _ rfl;have y0:=iw.frozen 0;have y1:=iw.frozen 1;obtain⟨wS,gT,hbS,eX⟩:=mD 0 ah iw;have jP:=zh hbS;have jk:=zh eX;have q0:=hbS.cell 0 _ rfl;have q1:=hbS.cell 1 _ rfl;clear iw hbS eX ji;go_wp2_with fail;refine bodyPost_ret (v:=.tuple #[.agg #[num 0,ah],num 0,num en]) (by simp [results,Tryz.results23,go_sem,q0,q1,ku]) rfl ?_;have hsz:=jM.out;have sN:ae [] w wS:=(bI.out.then (cZ.out.then (HCa.out.then fO.out))).trans jk.out (fun y hy=>.inr (by simp at hy;omega));exact⟨_,Own,G,rfl,⟨ah,rfl,⟨rfl,.inl ⟨rfl,rfl⟩⟩,From.nil _⟩,H.out.kept sN (by simp),fun y hy=>.inl hy,fun y hy=>.inl hy,.of sN⟩
end Go.Proofs.YtechofppmnnomaaGreatDoor
namespace Go.Proofs.YtechofppmnnomaaGreatDoor
open Go Go.RowKit Go.Mq Go.Mq.Tree Go.Mq.Sym Go.Mq.Run
open Go.Mq.Check (check Out)
set_option maxRecDepth 100000
set_option maxHeartbeats 4000000
theorem aeY {w:World} {Own G:Nat→Prop} {bw B fuel:Nat} {W:Wd} {x:Ac} {m:Mod} (h:dZ w Own G bw W) (hI:Inv W) (hL:Laid w B) (hE:kH w) (nz : ¬ Own 0) (hw : x.what=2) (ht : x.text.length≤1000) (hp : parse x.text = .ok m) :
  Calls Tryz.prog 23 #[ptr bw,.agg #[num x.what,str x.text,str x.name,str x.proc,.slice x.ad x.args.length x.cap],num fuel] w (ED w Own G bw ((fE W m).1,0,[],0,ku (fE W m).2)):=by
 rw [hw];obtain⟨w4,hw4⟩ : ∃ y,w.alloc (.cells #[num 2,str x.text,str x.name,str x.proc,.slice x.ad x.args.length x.cap] 57)=y:=⟨_,rfl⟩
 have hb4:ag w4 w.heap.size #[num 2,str x.text,str x.name,str x.proc,.slice x.ad x.args.length x.cap] 57:=by rw [← hw4];exact ag.new w _ _
 have hc4:ae [] w w4:=by rw [← hw4];exact(ae.refl _ _).alloc _
 have hs4 : w4.heap.size=w.heap.size + 1:=by rw [← hw4];simp
 obtain⟨w6,iq⟩ : ∃ y,w4.alloc (.cells #[num 0,ah] 43)=y:=⟨_,rfl⟩
 have hb6:ag w6 w4.heap.size #[num 0,ah] 43:=by rw [← iq];exact ag.new w4 _ _
 have hc6:ae [] w4 w6:=by rw [← iq];exact(ae.refl _ _).alloc _
 have hs6 : w6.heap.size=w4.heap.size + 1:=by rw [← iq];simp
 have lu:=hb4.kept hc6 (by simp);have x0:=lu.cell 0 _ rfl;have x1:=lu.cell 1 _ rfl;have hcw:=hc4.then hc6
 have hP:=Cs x.text (by omega) w6 B (hL.kept hcw (by simp));rw [hp] at hP;have HP:=zh hP;have gm:=zh (G5 (by omega) hp);have qC:=zh lu;have lS:=zh hb6;have bI:=zh hcw;have jM:=zh (show w4.heap.size=w.heap.size + 1∧w6.heap.size=w.heap.size + 2 by omega);have H:=zh h;have sI:=zh hE;have HL:=zh hL;have HI:=zh hI;have qm:=zh nz;clear h hb4 hc4 hs4 hb6 hc6 hs6 lu hcw hE hL hP hp hw hI nz
 go_enter Tryz.func23,Tryz.ntmps23
 go_wp2_with fail;refine HP.out.mono ?_;rintro _ w1 ⟨hc1,v,rfl,hmod⟩;have j6:=zh hmod;obtain⟨BH,BI,BJ,BK,BL,BM,BN,BO,rfl,hgv,hpv⟩:=xc hmod;have hz:=ag.new w1 #[str [],ah,ah,ah,ah] 32;obtain⟨wA,az⟩ : ∃ w',w1.alloc (.cells #[str [],ah,ah,ah,ah] 32)=w':=⟨_,rfl⟩
 rw [az] at hz;have hcA:ae [] w1 wA:=by rw [← az];exact(ae.refl _ _).alloc _
 obtain⟨wF,hwF,aV,aG⟩:=sV (str m.name) (.slice BH m.imports.length BI) (.slice BJ m.vars.length BK) (.slice BL m.procs.length BM) (.slice BN m.body.len BO) hz;have aO:ae [] w1 wF:=hcA.trans aV (fun x hx=>.inr (by simp at hx;omega));have z0:=hz.cell 0 _ rfl;have z1:=hz.cell 1 _ rfl;have z2:=hz.cell 2 _ rfl;have z3:=hz.cell 3 _ rfl;have z4:=hz.cell 4 _ rfl;have y0:=hz.frozen 0;have y1:=hz.frozen 1;have y2:=hz.frozen 2;have y3:=hz.frozen 3;have y4:=hz.frozen 4;have u0:=aG.cell 0 _ rfl;have u1:=aG.cell 1 _ rfl;have u2:=aG.cell 2 _ rfl;have u3:=aG.cell 3 _ rfl;have u4:=aG.cell 4 _ rfl;have v0:=((qC.out.kept hc1 (by simp)).kept aO (by simp)).cell 0 _ rfl;have hcw:=(bI.out.then hc1).then aO
 have hs1:=hc1.size;have sH:=zh (Uw (H.out.kept hcw (by simp)) HI.out ((j6.out.kept aO (by simp)).mono (fun x hx=>hx)) (Gm:=New w6 w1) (fun x hx=>⟨by have:=hx.2;have:=aO.size;omega,fun ho=>by have:=H.out.lt x (.inl ho);have:=hx.1;have:=jM.out;omega⟩) gm.out (HL.out.kept hcw (by simp)));have MS:=zh (sI.out.kept hcw (by simp));have aC:=zh hcw;have EM:=zh ((lS.out.kept hc1 (by simp)).kept aO (by simp));have Be:=zh (show w6.heap.size≤w1.heap.size∧w1.heap.size≤wF.heap.size from⟨hs1,aO.size⟩);clear hcA aV aG hz hc1 aO hcw hs1 hmod hgv hpv;go_wp2_with fail;clear hw4 iq az hwF z0 z1 z2 z3 z4 y0 y1 y2 y3 y4 x0 x1 u0 u1 u2 u3 u4 v0;refine sH.out.mono ?_;rintro _ w7 ⟨vo,rfl,pE,nY,hch⟩;obtain⟨Z,hz,hZ⟩:=hch;have hlt:=fun y (hy:Own y)=>H.out.lt y (.inl hy)
 have HT:=zh (Es (MS.out.kept hz (fun hm=>qm.out (hZ _ hm))) pE);have EI:=zh (EM.out.kept hz (fun hm=>by have:=hlt _ (hZ _ hm);have:=jM.out;omega));have HZ:=zh hZ;have EJ:=zh hz;have vQ:=zh nY;clear hz hZ hlt pE nY;go_wp2_with fail;refine HT.out.mono ?_;rintro _ wT ⟨rfl,ji⟩;have fO:=zh ji;have iw:=EI.out.kept ji (by simp);have z0:=iw.cell 0 _ rfl;have z1:=iw.cell 1 _ rfl;have y0:=iw.frozen 0;have y1:=iw.frozen 1;obtain⟨wS,gT,hbS,eX⟩:=mD 0 ah iw;have jk:=zh eX;have q0:=hbS.cell 0 _ rfl;have q1:=hbS.cell 1 _ rfl;clear iw hbS eX ji;go_wp2_with fail;refine bodyPost_ret (v:=.tuple #[.agg #[num 0,ah],num 0,num (ku (fE W m).2)]) (by simp [results,Tryz.results23,go_sem,q0,q1]) rfl ?_;have hsz:=jM.out;have hs1:=Be.out;have sN:ae [w4.heap.size] w7 wS:=fO.out.weak.then jk.out
 refine⟨_,More Own wF w7,fun y=>G y∨New w6 w1 y,rfl,⟨ah,rfl,⟨rfl,.inl ⟨rfl,rfl⟩⟩,From.nil _⟩,vQ.out.kept sN (fun y hy=>?_),fun y hy=>?_,fun y hy=>?_,Z,(aC.out.weak.then EJ.out).trans sN (fun y hy=>.inr ?_),HZ.out⟩
 ·simp only [List.mem_singleton] at hy
  subst hy;refine⟨fun ho=>?_,fun hg=>?_⟩
  ·rcases ho with ho|ho
   ·have:=H.out.lt _ (.inl ho);omega
   ·omega
  ·rcases hg with hg|hg
   ·have:=H.out.lt _ (.inr hg);omega
   ·have:=hg.1;omega
 ·rcases hy with hy|hy
  ·exact .inl hy
  ·exact .inr (by omega)
 ·rcases hy with hy|hy
  ·exact .inl hy
  ·exact .inr (by have:=hy.1;omega)
 ·simp only [List.mem_singleton] at hy
  omega
end Go.Proofs.YtechofppmnnomaaGreatDoor
namespace Go.Proofs.YtechofppmnnomaaGreatDoor
open Go Go.RowKit Go.Mq Go.Mq.Tree Go.Mq.Sym Go.Mq.Run
open Go.Mq.Check (check Out)
set_option maxRecDepth 100000
set_option maxHeartbeats 4000000
theorem aeZ {w:World} {Own G:Nat→Prop} {bw B fuel g:Nat} {W:Wd} {x:Ac} {m:Mod} {r:Wd × Nat × List Int × Out} (h:dZ w Own G bw W) (hL:Laid w B) (hE:kH w) (nz : ¬ Own 0) (hw : x.what≠1) (hw2 : x.what≠2) (hfu : fuel≤1000000) (ht : x.text.length≤1000) (hp : parse x.text = .ok m) (hr : mi g W m fuel=some r) :
  Calls Tryz.prog 23 #[ptr bw,.agg #[num x.what,str x.text,str x.name,str x.proc,.slice x.ad x.args.length x.cap],num fuel] w (ED w Own G bw (r.1,r.2.1,r.2.2.1,0,ku r.2.2.2)):=by
 obtain⟨wh,EL⟩ : ∃ y,y=x.what:=⟨_,rfl⟩
 rw [← EL] at hw hw2 ⊢;have hq : (wh == 1)=false:=by simpa using hw
 have hq2 : (wh == 2)=false:=by simpa using hw2
 obtain⟨w4,hw4⟩ : ∃ y,w.alloc (.cells #[num wh,str x.text,str x.name,str x.proc,.slice x.ad x.args.length x.cap] 57)=y:=⟨_,rfl⟩
 have hb4:ag w4 w.heap.size #[num wh,str x.text,str x.name,str x.proc,.slice x.ad x.args.length x.cap] 57:=by rw [← hw4];exact ag.new w _ _
 have hc4:ae [] w w4:=by rw [← hw4];exact(ae.refl _ _).alloc _
 have hs4 : w4.heap.size=w.heap.size + 1:=by rw [← hw4];simp
 obtain⟨w6,iq⟩ : ∃ y,w4.alloc (.cells #[num 0,ah] 43)=y:=⟨_,rfl⟩
 have hb6:ag w6 w4.heap.size #[num 0,ah] 43:=by rw [← iq];exact ag.new w4 _ _
 have hc6:ae [] w4 w6:=by rw [← iq];exact(ae.refl _ _).alloc _
 have hs6 : w6.heap.size=w4.heap.size + 1:=by rw [← iq];simp
 have lu:=hb4.kept hc6 (by simp);have x0:=lu.cell 0 _ rfl;have x1:=lu.cell 1 _ rfl;have hcw:=hc4.then hc6
 have hP:=Cs x.text (by omega) w6 B (hL.kept hcw (by simp));rw [hp] at hP;have HP:=zh hP;have gm:=zh (G5 (by omega) hp);have qC:=zh lu;have lS:=zh hb6;have bI:=zh hcw;have jM:=zh (show w4.heap.size=w.heap.size + 1∧w6.heap.size=w.heap.size + 2 by omega);have H:=zh h;have sI:=zh hE;have HL:=zh hL;have qm:=zh nz;clear h hb4 hc4 hs4 hb6 hc6 hs6 lu hcw hE hL hP hp hw hw2 EL nz
 go_enter Tryz.func23,Tryz.ntmps23
 go_wp2_with fail;refine HP.out.mono ?_;rintro _ w1 ⟨hc1,v,rfl,hmod⟩;have j6:=zh hmod;obtain⟨BH,BI,BJ,BK,BL,BM,BN,BO,rfl,hgv,hpv⟩:=xc hmod;have hz:=ag.new w1 #[str [],ah,ah,ah,ah] 32;obtain⟨wA,az⟩ : ∃ w',w1.alloc (.cells #[str [],ah,ah,ah,ah] 32)=w':=⟨_,rfl⟩
 rw [az] at hz;have hcA:ae [] w1 wA:=by rw [← az];exact(ae.refl _ _).alloc _
 obtain⟨wF,hwF,aV,aG⟩:=sV (str m.name) (.slice BH m.imports.length BI) (.slice BJ m.vars.length BK) (.slice BL m.procs.length BM) (.slice BN m.body.len BO) hz;have aO:ae [] w1 wF:=hcA.trans aV (fun x hx=>.inr (by simp at hx;omega));have z0:=hz.cell 0 _ rfl;have z1:=hz.cell 1 _ rfl;have z2:=hz.cell 2 _ rfl;have z3:=hz.cell 3 _ rfl;have z4:=hz.cell 4 _ rfl;have y0:=hz.frozen 0;have y1:=hz.frozen 1;have y2:=hz.frozen 2;have y3:=hz.frozen 3;have y4:=hz.frozen 4;have u0:=aG.cell 0 _ rfl;have u1:=aG.cell 1 _ rfl;have u2:=aG.cell 2 _ rfl;have u3:=aG.cell 3 _ rfl;have u4:=aG.cell 4 _ rfl;have v0:=((qC.out.kept hc1 (by simp)).kept aO (by simp)).cell 0 _ rfl;have hcw:=(bI.out.then hc1).then aO
 have hs1:=hc1.size;have sH:=zh (RY g (H.out.kept hcw (by simp)) ((j6.out.kept aO (by simp)).mono (fun x hx=>hx)) (Gm:=New w6 w1) (fun x hx=>⟨by have:=hx.2;have:=aO.size;omega,fun ho=>by have:=H.out.lt x (.inl ho);have:=hx.1;have:=jM.out;omega⟩) gm.out (by omega) hr);have MS:=zh (sI.out.kept hcw (by simp));have aC:=zh hcw;have EM:=zh ((lS.out.kept hc1 (by simp)).kept aO (by simp));have Be:=zh (show w6.heap.size≤w1.heap.size∧w1.heap.size≤wF.heap.size from⟨hs1,aO.size⟩);clear hcA aV aG hz hc1 aO hcw hs1 hmod hgv hpv hr;go_wp2_with fail;clear hw4 iq az hwF z0 z1 z2 z3 z4 y0 y1 y2 y3 y4 x0 x1 u0 u1 u2 u3 u4 v0;refine sH.out.mono ?_;rintro _ w7 ⟨ve,vo,rfl,hev,pE,nY,hch⟩;obtain⟨ov,rfl,hov,hof⟩:=hev;obtain⟨ea,ec,rfl⟩:=gu hov;obtain⟨Z,hz,hZ⟩:=hch;have hlt:=fun y (hy:Own y)=>H.out.lt y (.inl hy)
 have EE:=EM.out.kept hz (fun hm=>by have:=hlt _ (hZ _ hm);have:=jM.out;omega);obtain⟨w8,hw8⟩ : ∃ y,w7.alloc (.cells #[num 0,ah] 43)=y:=⟨_,rfl⟩
 have eD:ag w8 w7.heap.size #[num 0,ah] 43:=by rw [← hw8];exact ag.new w7 _ _
 have hc8:ae [] w7 w8:=by rw [← hw8];exact(ae.refl _ _).alloc _
 have i0:=eD.cell 0 _ rfl;have i1:=eD.cell 1 _ rfl;have j0:=eD.frozen 0;have j1:=eD.frozen 1;obtain⟨w9,EF,bg,bN⟩:=mD r.2.1 (.slice ea r.2.2.1.length ec) eD;have EG:ae [] w7 w9:=hc8.trans bN (fun x hx=>.inr (by simp at hx;omega));obtain⟨wE,bV⟩ : ∃ y,y=w9.drew:=⟨_,rfl⟩
 have zY:ae [] w9 wE:=by rw [bV];exact(ae.refl [] w9).drew
 have sJ:=EG.then zY
 have zZ:=bg.kept zY (by simp);have k0:=zZ.cell 0 _ rfl;have k1:=zZ.cell 1 _ rfl;have hne : w7.heap.size≠w4.heap.size:=by have:=hz.size;have:=jM.out;have:=Be.out;omega
 have df:=zh hne;have Z1:=zh (bZ.of (X:=[w4.heap.size]) (w0:=wE) k0 (by simpa using hne));have Z2:=zh (bZ.of (X:=[w4.heap.size]) (w0:=wE) k1 (by simpa using hne));have EH:=((MS.out.kept hz (fun hm=>qm.out (hZ _ hm))).kept sJ (by simp));have HT:=zh (Es EH (UZ pE sJ (fun x hx=>by cases hx)));have EI:=zh (EE.kept sJ (by simp));have HZ:=zh hZ;have EJ:=zh hz;have EK:=zh sJ;have xL:=zh hov;have nN:=zh hof;have vQ:=zh nY;clear hz hZ hlt EE eD hc8 bg bN EG zY sJ zZ EH pE nY hov hof hne;go_wp2_with fail;refine ug [w4.heap.size] rfl (by decide +kernel) ?_;rw [← bV];clear hw8 EF bV i0 i1 j0 j1;have hS:ae [w4.heap.size] wE wE:=ae.refl _ _
 repeat ((with_reducible refine gX ?_);(first|refine aM ?_|refine sK ?_|refine sM fun _ _=>?_|refine sL (hz:=by first|exact Z1.out|exact Z2.out) fun _ _=>?_|refine sE fun _ _=>?_);go_wp2_with fail)
 refine HT.out.mono ?_;rintro _ wT ⟨rfl,ji⟩;have fO:=zh ji;clear ji hS;have iw:=EI.out.kept fO.out (by simp);have z0:=iw.cell 0 _ rfl;have z1:=iw.cell 1 _ rfl;have y0:=iw.frozen 0;have y1:=iw.frozen 1;obtain⟨wS,gT,hbS,eX⟩:=mD r.2.1 (.slice ea r.2.2.1.length ec) iw;have jP:=zh hbS;have jk:=zh eX;clear iw hbS eX;go_wp2_with fail;refine And.intro fO.out.weak ?_;have hS:ae [w4.heap.size] wE wT:=fO.out.weak
 repeat ((with_reducible refine gX ?_);(first|refine aM ?_|refine sK ?_|refine sM fun _ _=>?_|refine sL (hz:=by first|exact Z1.out|exact Z2.out) fun _ _=>?_|refine sE fun _ _=>?_);go_wp2_with fail)
 clear hS gT;refine And.intro (fO.out.weak.then jk.out) ?_;have hS:ae [w4.heap.size] wE wS:=fO.out.weak.then jk.out
 have q0:=jP.out.cell 0 _ rfl;have q1:=jP.out.cell 1 _ rfl
 repeat ((with_reducible refine gX ?_);(first|refine aM ?_|refine sK ?_|refine sM fun _ _=>?_|refine sL (hz:=by first|exact Z1.out|exact Z2.out) fun _ _=>?_|refine sE fun _ _=>?_);go_wp2_with fail)
 go_wp2_with fail;refine bodyPost_ret (v:=.tuple #[.agg #[num r.2.1,.slice ea r.2.2.1.length ec],num 0,num (ku r.2.2.2)]) (by simp [results,Tryz.results23,go_sem,q0,q1]) rfl ?_;have hsz:=jM.out;have hs1:=Be.out;have sN:ae [w4.heap.size] w7 wS:=(EK.out.weak.then fO.out.weak).then jk.out
 refine⟨_,More Own wF w7,fun y=>G y∨New w6 w1 y,rfl,⟨_,rfl,cK xL.out sN (fun y hy hm=>?_),fun y hy=>?_⟩,vQ.out.kept sN (fun y hy=>?_),fun y hy=>?_,fun y hy=>?_,Z,((aC.out.weak.then EJ.out).then EK.out.weak).trans (fO.out.weak.then jk.out) (fun y hy=>.inr ?_),HZ.out⟩
 ·simp only [List.mem_singleton] at hm
  have:=nN.out y hy;omega
 ·have:=nN.out y hy
  omega
 ·simp only [List.mem_singleton] at hy
  subst hy;refine⟨fun ho=>?_,fun hg=>?_⟩
  ·rcases ho with ho|ho
   ·have:=H.out.lt _ (.inl ho);omega
   ·omega
  ·rcases hg with hg|hg
   ·have:=H.out.lt _ (.inr hg);omega
   ·have:=hg.1;omega
 ·rcases hy with hy|hy
  ·exact .inl hy
  ·exact .inr (by omega)
 ·rcases hy with hy|hy
  ·exact .inl hy
  ·exact .inr (by have:=hy.1;omega)
 ·simp only [List.mem_singleton] at hy
  omega
end Go.Proofs.YtechofppmnnomaaGreatDoor
namespace Go.Proofs.YtechofppmnnomaaGreatDoor
open Go Go.RowKit Go.Mq Go.Mq.Tree Go.Mq.Sym Go.Mq.Run
theorem ae0 {w:World} {Own G F:Nat→Prop} {bw B fuel g:Nat} {W:Wd} {x:Ac} {r:Wd × Nat × List Int × Int × Int} (h:dZ w Own G bw W) (hI:Inv W) (hL:Laid w B) (hE:kH w) (nz : ¬ Own 0) (ha:Row w F x.ad (ints x.args)) (hF : ∀ y,F y→y < w.heap.size∧¬ Own y) (ht : x.text.length≤1000) (h10 : x.args.length≤10) (hfu : fuel≤1000000) (hr : o7 g W x fuel=some r) :
  Calls Tryz.prog 23 #[ptr bw,.agg #[num x.what,str x.text,str x.name,str x.proc,.slice x.ad x.args.length x.cap],num fuel] w (ED w Own G bw r):=by
 unfold o7 at hr
 split at hr
 ·rename_i h1
  obtain⟨r',h2,rfl⟩:=Option.map_eq_some_iff.1 hr;exact aeV h hE nz ha hF h10 hfu h1 h2
 ·rename_i h1
  cases hp : parse x.text with
  | bad en p=>rw [hp] at hr;cases hr;exact aeW h hL hE h1 ht hp
  | ok m=>
   rw [hp] at hr;simp only at hr;split at hr
   ·rename_i h2
    cases hr
    exact aeY h hI hL hE nz h2 ht hp
   ·rename_i h2
    obtain⟨r',h3,rfl⟩:=Option.map_eq_some_iff.1 hr;exact aeZ h hL hE nz h1 h2 hfu ht hp h3
end Go.Proofs.YtechofppmnnomaaGreatDoor
namespace Go.Proofs.YtechofppmnnomaaGreatDoor
open Go Go.RowKit Go.Mq Go.Mq.Tree Go.Mq.Sym Go.Mq.Run
open Go.Mq.Check (check Out)
set_option maxRecDepth 100000
set_option maxHeartbeats 4000000
theorem ae1 {l:List Ac} (h : xU l=true) : l.length≤12 ∧ ∀ x∈l,x.text.length≤1000∧x.name.length≤40∧x.proc.length≤40∧x.args.length≤10:=by
 simp only [xU,Bool.and_eq_true,decide_eq_true_eq,Bool.not_eq_true',List.any_eq_false] at h;refine⟨h.1,fun x hx=>?_⟩;have:=h.2 x hx;simp only [xS,Bool.or_eq_true,decide_eq_true_eq] at this;omega
end Go.Proofs.YtechofppmnnomaaGreatDoor
namespace Go.Mq.Run
open Go Go.RowKit Go.Mq Go.Mq.Tree Go.Proofs.YtechofppmnnomaaGreatDoor
theorem EN (w:World) (t:TypeId) (z v0 v1 v2 v3 v4:Value) {z1 z2 z3 z4:Value} : ∃ wA wF,w.alloc (.cells #[z,z1,z2,z3,z4] t)=wA∧(((((wA.setCell ⟨w.heap.size,0,none⟩ v0).setCell ⟨w.heap.size,1,none⟩ v1).setCell ⟨w.heap.size,2,none⟩ v2).setCell ⟨w.heap.size,3,none⟩ v3).setCell ⟨w.heap.size,4,none⟩ v4)=wF∧ag wA w.heap.size #[z,z1,z2,z3,z4] t∧ae [] w wF∧ag wF w.heap.size #[v0,v1,v2,v3,v4] t:=by
 obtain⟨wF,h1,h2,h3⟩:=sV v0 v1 v2 v3 v4 (ag.new w #[z,z1,z2,z3,z4] t);exact⟨_,wF,rfl,h1,ag.new w _ t,((ae.refl _ _).alloc _).trans h2 (fun x hx=>.inr (by simp at hx;omega)),h3⟩
theorem ae2 (w:World) (t:TypeId) (n:Int) (v:Value) {z z1:Value} : ∃ wA wF,w.alloc (.cells #[z,z1] t)=wA∧((wA.setCell ⟨w.heap.size,0,none⟩ (num n)).setCell ⟨w.heap.size,1,none⟩ v)=wF∧(wA.cell? ⟨w.heap.size,0,none⟩=some z∧wA.cell? ⟨w.heap.size,1,none⟩=some z1)∧(wA.frozen? ⟨w.heap.size,0,none⟩=false∧wA.frozen? ⟨w.heap.size,1,none⟩=false)∧ae [] w wF∧ag wF w.heap.size #[num n,v] t:=by
 have hb:=ag.new w #[z,z1] t;obtain⟨wF,h1,h2,h3⟩:=mD n v hb;exact⟨_,wF,rfl,h1,⟨hb.cell 0 _ rfl,hb.cell 1 _ rfl⟩,⟨hb.frozen 0,hb.frozen 1⟩,((ae.refl _ _).alloc _).trans h3 (fun x hx=>.inr (by simp at hx;omega)),h2⟩
end Go.Mq.Run
namespace Go.Proofs.YtechofppmnnomaaGreatDoor
open Go Go.RowKit Go.Mq Go.Mq.Tree Go.Mq.Sym Go.Mq.Run
set_option maxRecDepth 100000
set_option maxHeartbeats 4000000
end Go.Proofs.YtechofppmnnomaaGreatDoor
