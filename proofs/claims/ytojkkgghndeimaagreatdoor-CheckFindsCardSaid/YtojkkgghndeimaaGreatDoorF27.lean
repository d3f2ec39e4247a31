/- Some texts in one. -/
import Derived.Test.YtojkkgghndeimaaGreatDoorF16
import Derived.Test.YtojkkgghndeimaaGreatDoorF23
import Derived.Test.YtojkkgghndeimaaGreatDoorF25
import Derived.Test.YtojkkgghndeimaaGreatDoorF26
namespace Go.Mq.Check
open Go Go.RowKit Go.Mq Go.Mq.Tree Go.Mq.Sym Go.Mq.Ref
def judgeN (c:Env):E→Look
 | .var p m n=>judgeB c 2 p m n 0
 | .item p m n _=>judgeB c 3 p m n 0
 | .app p m n l=>judgeB c 6 p m n (argsN l)
 | _=>none
def judgeE (c:Env) (x:E) (l:Look):Look:=l.or (judgeN c x)
theorem visE_judge (c:Env) (e:E) : ∀ l,visE (judgeE c) e l=l.or (exprL c e):=by
 induction e with
 | num p n=>intro l; simp [visE,judgeE,judgeN,exprL]
 | var p m n=>intro l; simp [visE,judgeE,judgeN,exprL,judgeB]
 | item p m n i ih=>
  intro l
  show visE (judgeE c) i (judgeE c (.item p m n i) l)=_
  rw [ih,judgeE,exprL,Option.or_assoc]
  simp [judgeN,judgeB]
 | un p o x ih=>
  intro l
  show visE (judgeE c) x (judgeE c (.un p o x) l)=_
  rw [ih]
  simp [judgeE,judgeN,exprL]
 | bin p o x y ih1 ih2=>
  intro l
  show visE (judgeE c) y (visE (judgeE c) x (judgeE c (.bin p o x y) l))=_
  rw [ih2,ih1]
  simp [judgeE,judgeN,exprL,Option.or_assoc]
 | app p m n t ih=>
  intro l
  show visE (judgeE c) t (judgeE c (.app p m n t) l)=_
  rw [ih,judgeE,exprL,Option.or_assoc]
  simp [judgeN,judgeB]
 | nil=>intro l; simp [visE,exprL]
 | cons x r ih1 ih2=>
  intro l
  show visE (judgeE c) r (visE (judgeE c) x l)=_
  rw [ih2,ih1,exprL,Option.or_assoc]
theorem nameL_nz {c:Env} {p:Nat} {m n:List UInt8} {f:Sy→Look} (hf : ∀ s x,f s=some x→x.1≠0) {x:Nat × Nat} (h : nameL c p m n f=some x) : x.1≠0:=by
 rw [nameL] at h
 cases hg : c.find p m n with
 | bad e q=>rw [hg] at h; simp only [Option.some.injEq] at h; subst h; exact (find_bad hg).2
 | is s=>rw [hg] at h; exact hf s x h
theorem judgeB_nz {c:Env} {t p:Nat} {m n:List UInt8} {k:Nat} {x:Nat × Nat} (h : judgeB c t p m n k=some x) : x.1≠0:=by
 unfold judgeB at h
 split at h
 ·exact nameL_nz (fun s x hx=>by split at hx <;> simp at hx; rw [← hx]; simp) h
 split at h
 ·exact nameL_nz (fun s x hx=>by split at hx <;> simp at hx; rw [← hx]; simp) h
 split at h
 ·exact nameL_nz (fun s x hx=>by
   split at hx
   ·simp at hx; rw [← hx]; simp
   ·split at hx <;> simp at hx; rw [← hx]; simp) h
 ·cases h
def FaultI (bf:Nat) (l:Look) (w:World):Prop:=Blk w bf #[num (badE l),num (badP l)] 34 ∧ ∀ x,l=some x→x.1≠0
theorem FaultI.keep {bf:Nat} : ∀ (l:Look) (w w':World),FaultI bf l w→Chg [] w w'→FaultI bf l w':=fun _ _ _ h hc=>⟨h.1.kept hc (by simp),h.2⟩
structure JBox (w:World) (F:Nat→Prop) (c:Env) (v vo vm:Value) (B bf bm bo bs:Nat):Prop where
 env:REnv w F c v vo vm
 laid:RLaid w B
 up:B≤bf
 out : ¬ F bf
 ne : bm≠bf∧bo≠bf∧bs≠bf
 m : ∃ cs,v = .agg cs∧Blk w bm cs 31
 o:Blk w bo #[vo] 25
 s:Blk w bs #[vm] 44
theorem JBox.kept {w w':World} {F:Nat→Prop} {c:Env} {v vo vm:Value} {B bf bm bo bs:Nat} (h:JBox w F c v vo vm B bf bm bo bs) (hc:Chg [bf] w w'):JBox w' F c v vo vm B bf bm bo bs:=by
 obtain ⟨cs,h1,h2⟩:=h.m
 exact ⟨h.env.kept hc (fun x hx=>by simp at hx; subst hx; exact h.out),h.laid.kept hc (fun x hx=>by simp at hx; subst hx; exact h.up),h.up,h.out,h.ne,⟨cs,h1,h2.kept hc (by simpa using h.ne.1)⟩,h.o.kept hc (by simpa using h.ne.2.1),h.s.kept hc (by simpa using h.ne.2.2)⟩
theorem set2F {w:World} {b:Nat} (v0 v1:Value) {u0 u1:Value} {t:TypeId} (h:Blk w b #[u0,u1] t) : ∃ wF,((w.setCell ⟨b,0,none⟩ v0).setCell ⟨b,1,none⟩ v1)=wF∧Chg [b] w wF∧Blk wF b #[v0,v1] t:=
 ⟨_,rfl,(Chg.set1 _ _ _ _).then (Chg.set1 _ _ _ _),by have:=(h.set 0 v0).set 1 v1; simpa using this⟩
theorem args_len {w:World} {F:Nat→Prop} : ∀ (e:E) {vs:List Value},e.isL→WF e→EAt w F e vs→vs.length=argsN e
 | .nil,vs,_,_,h=>by rw [show vs=[] from h]; rfl
 | .cons x r,vs,_,hw,h=>by
  obtain ⟨u,us,rfl,_,h2⟩:=h
  have ih:=args_len r hw.2.2 hw.2.1 h2
  simp [argsN,ih]
end Go.Mq.Check
namespace Go.Proofs.YtojkkgghndeimaaGreatDoor
open Go Go.RowKit Go.Mq Go.Mq.Tree Go.Mq.Sym Go.Mq.Check Go.Mq.Ref
set_option maxRecDepth 100000
set_option maxHeartbeats 4000000
theorem look_fn : ∀ (cs:Array Value) (w:World),(callFunc 117 cs).run Tryz.prog w = .ok (.enter 117 cs) w:=fun _ _=>by kernel_rfl
theorem rlookB_any {c:Env} {F:Nat→Prop} {w0:World} {v vo vm:Value} {B bf bm bo bs:Nat} (hJ:JBox w0 F c v vo vm B bf bm bo bs) (t p:Nat) (ht : (t=1∨t=4∨t=5)∨t=2∨t=3∨t=6) (m n:List UInt8) (b:Nat) (c2 c5 c6 c7:Value) (a:Option Addr) (k kk:Nat) (hk : k≤1000000)
  (hb : b≠bf) (hx:Blk w0 b #[.int .i64 t,.int .i64 p,c2,str m,str n,c5,c6,c7,.slice a k kk] 155) :
  Does 117 #[ptr bf,ptr bm,ptr bo,ptr bs] w0 [bf] (FaultI bf) (ptr b) (fun l=>l.or (judgeB c t p m n k)):=by
 intro w l hc hi
 have hJw:=hJ.kept hc
 have HJ:=Lib.hid hJw
 have HX:=Lib.hid (hx.kept hc (by simpa using hb))
 have g0:=hJw.laid.fine0; have g1:=hJw.laid.fine1
 have d0:=hi.1.cell 0 _ rfl; have d1:=hi.1.cell 1 _ rfl
 have HI:=Lib.hid hi
 clear hJ hx hc hi
 cases l with
 | some x=>
  obtain ⟨e,q⟩:=x
  have hne:=HI.out.2 (e,q) rfl
  have hn1 : ((e:Int) == 0)=false:=by simp; simpa using hne
  simp only [badE,badP] at d0 d1
  clear hJw hne
  go_enter Tryz.func117,Tryz.ntmps117
  go_wp2_with fail
  refine bodyPost_end (results_none rfl _ _ _) rfl ⟨rfl,?_,Chg.refl _ _⟩
  exact HI.out
 | none=>
  simp only [badE,badP] at d0 d1
  obtain ⟨cs,hcs,hmb⟩:=hJw.m
  have hob:=hJw.o; have hsb:=hJw.s
  have HR:=Lib.hid (rjudge_any c F w v vo vm hJw.env B hJw.laid t p ht m n b c2 c5 c6 c7 a k kk hk HX.out)
  obtain ⟨nm,ai,ci,av,cv,ap,cp,ab,nb,cb,al,cl,om,hv,rfl,rfl,_⟩:=hJw.env.at_
  rw [hv] at hcs
  cases hcs
  obtain ⟨m0,m1,m2,m3,m4⟩:=hmb.five
  have o0:=hob.cell 0 _ rfl; have s0:=hsb.cell 0 _ rfl
  rw [hv] at HR
  clear hmb hob hsb hv hJw
  obtain ⟨r,hr⟩ : ∃ r,r=judgeB c t p m n k:=⟨_,rfl⟩
  rw [← hr] at HR
  have HRE:=Lib.hid hr
  clear hr
  go_enter Tryz.func117,Tryz.ntmps117
  go_wp2_with fail
  refine HR.out.mono ?_; rintro _ w2 ⟨rfl,hc2⟩
  obtain ⟨wF,hwF,hcF,hbF⟩:=set2F (num (badE r)) (num (badP r)) (HI.out.1.kept hc2 (by simp))
  have e0:=(HI.out.1.kept hc2 (by simp)).cell 0 _ rfl; have e1:=(HI.out.1.kept hc2 (by simp)).cell 1 _ rfl
  have f0:=(HI.out.1.kept hc2 (by simp)).frozen 0; have f1:=(HI.out.1.kept hc2 (by simp)).frozen 1
  have HCF:=Lib.hid (hc2.weak.then hcF); have HBF:=Lib.hid hbF
  clear hc2 hcF hbF d0 d1 m0 m1 m2 m3 m4 o0 s0 g0 g1
  go_wp2_with fail
  refine bodyPost_end (results_none rfl _ _ _) rfl ⟨rfl,?_,HCF.out⟩
  rw [Option.none_or,← HRE.out]
  exact ⟨HBF.out,fun x hx=>judgeB_nz (by rw [← HRE.out]; exact hx)⟩
theorem rlook_any {c:Env} {F:Nat→Prop} {w0:World} {v vo vm:Value} {B bf bm bo bs:Nat} (hJ:JBox w0 F c v vo vm B bf bm bo bs) (x:E) (u:Value) (hX : x.isX) (hw:WF x) (hl : (toks x).length≤900000) (h:EAt w0 F x [u]) :
  Does 117 #[ptr bf,ptr bm,ptr bo,ptr bs] w0 [bf] (FaultI bf) u (judgeE c x):=by
 have hne : ∀ b,F b→b≠bf:=fun b hb e=>hJ.out (e ▸ hb)
 have hz : ∀ {t p:Nat} {m n:List UInt8} {k:Nat},(t=1∨t=4∨t=5)→judgeB c t p m n k=none:=fun h=>by rw [judgeB]; rcases h with rfl | rfl | rfl <;> rfl
 cases x with
 | num p n=>
  obtain ⟨b,hb,hF,hx⟩:=h; cases hb
  have:=rlookB_any hJ 1 p (.inl (.inl rfl)) [] [] b _ _ _ _ none 0 0 (by omega) (hne b hF) hx
  rwa [hz (.inl rfl)] at this
 | var p m n=>
  obtain ⟨b,hb,hF,hx⟩:=h; cases hb
  exact rlookB_any hJ 2 p (.inr (.inl rfl)) m n b _ _ _ _ none 0 0 (by omega) (hne b hF) hx
 | item p m n i=>
  obtain ⟨b,u1,hb,hF,hx,_⟩:=h; cases hb
  exact rlookB_any hJ 3 p (.inr (.inr (.inl rfl))) m n b _ _ _ _ none 0 0 (by omega) (hne b hF) hx
 | un p o y=>
  obtain ⟨b,u1,hb,hF,hx,_⟩:=h; cases hb
  have:=rlookB_any hJ 4 p (.inl (.inr (.inl rfl))) [] [] b _ _ _ _ none 0 0 (by omega) (hne b hF) hx
  rwa [hz (.inr (.inl rfl))] at this
 | bin p o y z=>
  obtain ⟨b,u1,u2,hb,hF,hx,_⟩:=h; cases hb
  have:=rlookB_any hJ 5 p (.inl (.inr (.inr rfl))) [] [] b _ _ _ _ none 0 0 (by omega) (hne b hF) hx
  rwa [hz (.inr (.inr rfl))] at this
 | app p m n l=>
  obtain ⟨b,a,cc,vs,hb,hF,hx,_,_,hi⟩:=h; cases hb
  have hl2 : (toks l).length≤900000:=by simp only [toks,List.length_append,List.length_cons] at hl; omega
  have hvl:=len_leV l vs hw.2.2.2 hw.2.2.1 hi
  have hva : vs.length=argsN l:=args_len l hw.2.2.2 hw.2.2.1 hi
  have:=rlookB_any hJ 6 p (.inr (.inr (.inr rfl))) m n b _ _ _ _ a vs.length cc (by omega) (hne b hF) hx
  rwa [hva] at this
 | nil=>exact hX.elim
 | cons _ _=>exact hX.elim
end Go.Proofs.YtojkkgghndeimaaGreatDoor
namespace Go.Mq.Check
open Go Go.RowKit Go.Mq Go.Mq.Tree Go.Mq.Sym Go.Mq.Ref
def XOk (w:World) (F:Nat→Prop) (x:E) (o:Option Addr):Prop:=x.isX∧WF x∧(toks x).length≤900000∧EAt w F x [.pointer o]
def OptX (w:World) (F:Nat→Prop) (g:Option E) (o:Option Addr):Prop:=match g with
 | none=>o=none
 | some x=>XOk w F x o∧o≠none
def exprO (c:Env):Option E→Look
 | none=>none
 | some x=>exprL c x
def headO (c:Env) (code p:Nat) (nm:List UInt8) (g:Option E):Look:=if code=1 then judgeB c (if g.isSome then 3 else 2) p [] nm 0 else none
theorem XOk.kept {Z:List Nat} {w w':World} {F:Nat→Prop} {x:E} {o:Option Addr} (h:XOk w F x o) (hc:Chg Z w w') (hZ : ∀ x∈Z,¬ F x):XOk w' F x o:=⟨h.1,h.2.1,h.2.2.1,h.2.2.2.kept hc hZ⟩
theorem OptX.kept {Z:List Nat} {w w':World} {F:Nat→Prop} {g:Option E} {o:Option Addr} (h:OptX w F g o) (hc:Chg Z w w') (hZ : ∀ x∈Z,¬ F x):OptX w' F g o:=by
 cases g with
 | none=>exact h
 | some x=>exact ⟨h.1.kept hc hZ,h.2⟩
end Go.Mq.Check
namespace Go.Proofs.YtojkkgghndeimaaGreatDoor
open Go Go.RowKit Go.Mq Go.Mq.Tree Go.Mq.Sym Go.Mq.Check Go.Mq.Ref
set_option maxRecDepth 100000
set_option maxHeartbeats 4000000
theorem jwalk1 {c:Env} {F:Nat→Prop} {w0:World} {v vo vm:Value} {B bf bm bo bs:Nat} (hJ:JBox w0 F c v vo vm B bf bm bo bs) (hlt : bf < w0.heap.size) (g:Option E) (x:E) (oi ov:Option Addr) (hi:OptX w0 F g oi) (hv:XOk w0 F x ov) (bl cap:Nat) (hne : bl≠bf)
  (hsl:Blk w0 bl #[num 0,num 0,str [],.pointer oi,.pointer ov,nils,nils] 138) :
  VS 117 #[ptr bf,ptr bm,ptr bo,ptr bs] w0 [bf] (FaultI bf) (.slice (some ⟨bl,0,none⟩) 1 cap) (fun l=>(l.or (exprO c g)).or (exprL c x)):=by
 have hZ : ∀ y∈[bf],¬ F y:=fun y hy=>by simp at hy; subst hy; exact hJ.out
 have hG : ∀ (x:E) (u:Value),x.isX→WF x→(toks x).length≤900000→EAt w0 F x [u]→Does 117 #[ptr bf,ptr bm,ptr bo,ptr bs] w0 [bf] (FaultI bf) u (judgeE c x):=fun x u h1 h2 h3 h4=>rlook_any hJ x u h1 h2 h3 h4
 have vx : ∀ {x:E} {o:Option Addr},XOk w0 F x o→VKA 117 #[ptr bf,ptr bm,ptr bo,ptr bs] w0 [bf] (FaultI bf) (.pointer o) (visE (judgeE c) x):=fun {x o} h w1 b1 b2 hB h1 h2=>
  (vk_all look_fn FaultI.keep hB h1 h2 F hZ (judgeE c) hG x h.2.1 h.2.2.1).1 h.1 _ h.2.2.2
 have vi:VKA 117 #[ptr bf,ptr bm,ptr bo,ptr bs] w0 [bf] (FaultI bf) (.pointer oi) (fun l=>l.or (exprO c g)):=by
  cases g with
  | none=>
   obtain rfl : oi=none:=hi
   have:=vka_nil (σ:=Look) (fn:=117) (bd:=#[ptr bf,ptr bm,ptr bo,ptr bs]) (w0:=w0) (Z:=[bf]) (Inv:=FaultI bf)
   have e : (fun l:Look=>l.or (exprO c none))=id:=by funext l; simp [exprO]
   rw [e]
   exact this
  | some y=>
   have:=vx hi.1
   have e : visE (judgeE c) y=fun l=>l.or (exprO c (some y)):=by funext l; exact visE_judge c y l
   rw [e] at this
   exact this
 have vv:VKA 117 #[ptr bf,ptr bm,ptr bo,ptr bs] w0 [bf] (FaultI bf) (.pointer ov) (fun l=>l.or (exprL c x)):=by
  have:=vx hv
  have e : visE (judgeE c) x=fun l=>l.or (exprL c x):=by funext l; exact visE_judge c x l
  rw [e] at this
  exact this
 have hzl : ∀ y∈[bf],y < w0.heap.size:=fun y hy=>by simp at hy; subst hy; exact hlt
 have hzb : ∀ y∈[bf],¬ (y=bl):=fun y hy e=>by simp at hy; exact hne (e ▸ hy)
 have vnil:VS 117 #[ptr bf,ptr bm,ptr bo,ptr bs] w0 [bf] (FaultI bf) nils id:=vRows FaultI.keep F hZ hzl (cs:=[]) (by omega) (Row.nil _ _ _) [] rfl (fun i g h=>by simp at h)
 have hrow:Row w0 (fun y=>y=bl) (some ⟨bl,0,none⟩) [num 0,num 0,str [],.pointer oi,.pointer ov,nils,nils]:=by
  refine ⟨fun _=>⟨bl,0,rfl,fun i u hu=>?_⟩,fun _ p hp=>by cases hp; rfl⟩
  rw [Nat.zero_add]
  exact hsl.cell i u (by simpa using hu)
 have:=vRows FaultI.keep (fun y=>y=bl) hzb hzl (n:=1) (c:=cap) (by omega) hrow [_] rfl (fun i gg hg=>by
  cases i with
  | zero=>
   simp only [List.getElem?_cons_zero,Option.some.injEq] at hg
   subst hg
   exact StV.zero (k:=0) (p:=0) (nm:=[]) (cs:=[]) vi vv vnil vnil
  | succ i=>simp at hg)
 exact this
def JAll (c:Env) (F:Nat→Prop) (v vo vm:Value) (B:Nat) (s:S):Prop:=∀ d,WFS d s→(stmtK s).length≤900000 → ∀ (vl:Value) (w:World),REnv w F c v vo vm→RLaid w B→B≤w.heap.size→(∀ x,F x→x < w.heap.size)→SlAt w F s vl →
 Calls Tryz.prog 63 #[v,vo,vm,vl] w (fun e w'=>e = .returned (faultV (Check.bodyL c s))∧Chg [] w w')
structure In1 (c:Env) (F:Nat→Prop) (v vo vm:Value) (B:Nat) (w:World) (t:S) (a:Option Addr) (n k:Nat):Prop where
 all:JAll c F v vo vm B t
 wf : ∃ d,WFS d t
 few : (stmtK t).length≤900000
 at_:SlAt w F t (.slice a n k)
theorem In1.kept {c:Env} {F:Nat→Prop} {v vo vm:Value} {B:Nat} {Z:List Nat} {w w':World} {t:S} {a:Option Addr} {n k:Nat} (h:In1 c F v vo vm B w t a n k) (hc:Chg Z w w') (hZ : ∀ x∈Z,¬ F x):In1 c F v vo vm B w' t a n k:=⟨h.all,h.wf,h.few,h.at_.kept hc hZ⟩
theorem jview {c:Env} {F:Nat→Prop} {v vo vm:Value} {B:Nat} (hnil:JAll c F v vo vm B .nil) (s:S) {d:Nat} {cs:List Value} {w:World} (hs:SAt w F s cs) (hw:WFS d s) (hl : (stmtK s).length≤900000) (ha:AllB (JAll c F v vo vm B) s) : s = .nil ∨ ∃ (code p n1 k1 n2 k2:Nat) (nm:List UInt8) (oi ov a1 a2:Option Addr) (cs':List Value) (r:S) (g:Option E) (x:E) (t e:S),
  cs=num code :: num p :: str nm :: .pointer oi :: .pointer ov :: .slice a1 n1 k1 :: .slice a2 n2 k2 :: cs'∧SAt w F r cs'∧OptX w F g oi∧XOk w F x ov∧In1 c F v vo vm B w t a1 n1 k1∧In1 c F v vo vm B w e a2 n2 k2∧AllB (JAll c F v vo vm B) r∧WFS d r∧(stmtK r).length≤900000∧s.len=r.len + 1 ∧
  Check.bodyL c s=(((((headO c code p nm g).or (exprO c g)).or (exprL c x)).or (Check.bodyL c t)).or (Check.bodyL c e)).or (Check.bodyL c r)∧(code=1∨2≤code∧code≤6∧g=none):=by
 have ex : ∀ {d lv:Nat} {x:E} {u:Value},Fits d lv x→(toks x).length≤900000→EAt w F x [u] → ∃ q,u = .pointer (some q)∧XOk w F x (some q):=fun {d lv x u} hf hb h=>by
  have hq : ∃ b,u=ptr b:=by
   have hX:=hf.1.2
   cases x with
   | num p n=>obtain ⟨b,hb,_⟩:=h; cases hb; exact ⟨_,rfl⟩
   | var p m n=>obtain ⟨b,hb,_⟩:=h; cases hb; exact ⟨_,rfl⟩
   | item p m n i=>obtain ⟨b,_,hb,_⟩:=h; cases hb; exact ⟨_,rfl⟩
   | un p op x=>obtain ⟨b,_,hb,_⟩:=h; cases hb; exact ⟨_,rfl⟩
   | bin p op x y=>obtain ⟨b,_,_,hb,_⟩:=h; cases hb; exact ⟨_,rfl⟩
   | app p m n l=>obtain ⟨b,_,_,_,hb,_⟩:=h; cases hb; exact ⟨_,rfl⟩
   | nil=>exact hX.elim
   | cons _ _=>exact hX.elim
  obtain ⟨b,rfl⟩:=hq
  exact ⟨_,rfl,hf.1.2,hf.1.1,hb,h⟩
 have nl:In1 c F v vo vm B w .nil none 0 0:=⟨hnil,⟨0,trivial⟩,by simp [stmtK],none,0,[],rfl,Nat.le_refl _,Row.nil _ _ _,rfl⟩
 cases s with
 | nil=>exact .inl rfl
 | set p n i y r=>
  obtain ⟨ui,uv,cs',rfl,hi,hv,hr⟩:=hs
  simp only [stmtK,List.length_append,List.length_cons] at hl
  obtain ⟨qv,rfl,kv⟩:=ex hw.2.2.1 (by omega) hv
  refine .inr ?_
  cases i with
  | none=>
   obtain rfl : ui=nilp:=hi
   refine ⟨1,p,0,0,0,0,n,none,some qv,none,none,cs',r,none,y,.nil,.nil,rfl,hr,rfl,kv,nl,nl,ha,hw.2.2.2,by omega,rfl,?_,.inl rfl⟩
   simp [Check.bodyL,headO,exprO,exprL,judgeB]
  | some x=>
   obtain ⟨qi,rfl,ki⟩:=ex (hw.2.1 x rfl) (by simp only [indexK,List.length_append,List.length_cons] at hl; omega) hi
   refine ⟨1,p,0,0,0,0,n,some qi,some qv,none,none,cs',r,some x,y,.nil,.nil,rfl,hr,⟨ki,by simp⟩,kv,nl,nl,ha,hw.2.2.2,by omega,rfl,?_,.inl rfl⟩
   simp [Check.bodyL,headO,exprO,exprL,judgeB]
 | ret p y r=>
  obtain ⟨uv,cs',rfl,hv,hr⟩:=hs
  simp only [stmtK,List.length_append,List.length_cons] at hl
  obtain ⟨qv,rfl,kv⟩:=ex hw.1 (by omega) hv
  exact .inr ⟨4,p,0,0,0,0,[],none,some qv,none,none,cs',r,none,y,.nil,.nil,rfl,hr,rfl,kv,nl,nl,ha,hw.2,by omega,rfl,by simp [Check.bodyL,headO,exprO],.inr ⟨by omega,by omega,rfl⟩⟩
 | wri p y r=>
  obtain ⟨uv,cs',rfl,hv,hr⟩:=hs
  simp only [stmtK,List.length_append,List.length_cons] at hl
  obtain ⟨qv,rfl,kv⟩:=ex hw.1 (by omega) hv
  exact .inr ⟨5,p,0,0,0,0,[],none,some qv,none,none,cs',r,none,y,.nil,.nil,rfl,hr,rfl,kv,nl,nl,ha,hw.2,by omega,rfl,by simp [Check.bodyL,headO,exprO],.inr ⟨by omega,by omega,rfl⟩⟩
 | call p y r=>
  obtain ⟨uv,cs',rfl,hv,hr⟩:=hs
  simp only [stmtK,List.length_append,List.length_cons] at hl
  obtain ⟨qv,rfl,kv⟩:=ex hw.1.1 (by omega) hv
  exact .inr ⟨6,p,0,0,0,0,[],none,some qv,none,none,cs',r,none,y,.nil,.nil,rfl,hr,rfl,kv,nl,nl,ha,hw.2,by omega,rfl,by simp [Check.bodyL,headO,exprO],.inr ⟨by omega,by omega,rfl⟩⟩
 | whil p y b r=>
  obtain ⟨uv,a1,c1,ts,cs',rfl,hv,hc1,hr1,ht,hr⟩:=hs
  simp only [stmtK,List.length_append,List.length_cons] at hl
  obtain ⟨qv,rfl,kv⟩:=ex hw.1 (by omega) hv
  exact .inr ⟨3,p,b.len,c1,0,0,[],none,some qv,a1,none,cs',r,none,y,b,.nil,rfl,hr,rfl,kv,⟨ha.1,⟨_,hw.2.1.2⟩,by omega,a1,c1,ts,rfl,hc1,hr1,ht⟩,nl,ha.2,hw.2.2,by omega,rfl,by simp [Check.bodyL,headO,exprO],.inr ⟨by omega,by omega,rfl⟩⟩
 | ifs p y b e r=>
  obtain ⟨uv,a1,c1,ts,a2,c2,es,cs',rfl,hv,hc1,hr1,ht,hc2,hr2,he,hr⟩:=hs
  have hbe : (stmtK e).length≤(if e.isNil then [] else [101,108,115,101] :: stmtK e).length:=by
   cases e <;> simp [S.isNil,stmtK]
  simp only [stmtK,List.length_append,List.length_cons] at hl
  obtain ⟨qv,rfl,kv⟩:=ex hw.1 (by omega) hv
  exact .inr ⟨2,p,b.len,c1,e.len,c2,[],none,some qv,a1,a2,cs',r,none,y,b,e,rfl,hr,rfl,kv,⟨ha.1,⟨_,hw.2.1.1.2⟩,by omega,a1,c1,ts,rfl,hc1,hr1,ht⟩,⟨ha.2.1,⟨_,hw.2.1.2.2⟩,by omega,a2,c2,es,rfl,hc2,hr2,he⟩,ha.2.2,hw.2.2,by omega,rfl,by simp [Check.bodyL,headO,exprO],.inr ⟨by omega,by omega,rfl⟩⟩
end Go.Proofs.YtojkkgghndeimaaGreatDoor
namespace Go.Mq.Check
open Go Go.RowKit Go.Mq Go.Mq.Tree Go.Mq.Sym Go.Mq.Ref
def outV:Out→Value
 | .fine=>.agg #[num 0,num (-1)]
 | .plain e=>.agg #[num e,num (-1)]
 | .at_ e p=>.agg #[num e,num p]
theorem outV_of (l:Look) : outV (.of l)=faultV l:=by
 cases l with
 | none=>rfl
 | some x=>rfl
def oE:Out→Int
 | .fine=>0
 | .plain e=>e
 | .at_ e _=>e
def oP:Out→Int
 | .fine=>-1
 | .plain _=>-1
 | .at_ _ p=>p
theorem outV_eq (o:Check.Out) : outV o = .agg #[num (oE o),num (oP o)]:=by cases o <;> rfl
def CntIs (w:World) (b:Nat) (had:List (List UInt8)):Prop:=∃ es,MapIs w b es ∧ ∀ n,getM es n=if n∈had then some (num 1) else none
theorem CntIs.kept {S:List Nat} {w w':World} {b:Nat} {had:List (List UInt8)} (h:CntIs w b had) (hc:Chg S w w') (hn : b∉S):CntIs w' b had:=by
 obtain ⟨es,h1,h2⟩:=h
 exact ⟨es,h1.kept hc hn,h2⟩
theorem CntIs.lt {w:World} {b:Nat} {had:List (List UInt8)} (h:CntIs w b had) : b < w.heap.size:=by
 obtain ⟨es,h1,_⟩:=h
 exact h1.lt
theorem CntIs.made (w:World):CntIs (w.alloc (.map #[] 0)) w.heap.size []:=⟨[],MapIs.made w,fun n=>by simp [getM]⟩
end Go.Mq.Check
namespace Go.Proofs.YtojkkgghndeimaaGreatDoor
open Go Go.RowKit Go.Extern.Stop Go.Stop Go.Extern Go.Mq Go.Mq.Tree Go.Mq.Sym Go.Mq.Ref Go.Mq.Check
set_option maxRecDepth 100000
set_option maxHeartbeats 2000000
theorem zero_int (w:World) : (zeroValue 3).run Tryz.prog w = .ok (num 0) w:=by kernel_rfl
theorem cnt_miss {w:World} {b:Nat} {had:List (List UInt8)} (h:CntIs w b had) (n:List UInt8) (hn : n∉had) : (Instr.lookup 122 (.map (some b)) (str n) false).run Tryz.prog w = .ok (num 0) w ∧ ∃ w',(Instr.mapUpdate 122 (.map (some b)) (str n) (num 1)).run Tryz.prog w = .ok () w'∧(Instr.lookup 122 (.map (some b)) (str n) false).run Tryz.prog w' = .ok (num 1) w'∧Hid (CntIs w' b (n :: had))∧Hid (Chg [b] w w'):=by
 obtain ⟨es,hm,hes⟩:=h
 have hl:=run_getM (P:=Tryz.prog) Tryz.underlying122 Tryz.underlying9 (zero_int w) hm n
 rw [hes,if_neg hn] at hl
 obtain ⟨w',hu,hm',hc'⟩:=run_putM (P:=Tryz.prog) Tryz.underlying122 Tryz.underlying9 hm n (num 1)
 have hl':=run_getM (P:=Tryz.prog) Tryz.underlying122 Tryz.underlying9 (zero_int w') hm' n
 rw [getM_put,if_pos rfl] at hl'
 exact ⟨hl,w',hu,hl',Lib.hid ⟨_,hm',fun x=>by
  rw [getM_put,hes]
  by_cases hx : n=x
  ·subst hx; simp
  ·rw [if_neg hx]; simp [Ne.symm hx]⟩,Lib.hid hc'⟩
theorem cnt_hit {w:World} {b:Nat} {had:List (List UInt8)} (h:CntIs w b had) (n:List UInt8) (hn : n∈had) : (Instr.lookup 122 (.map (some b)) (str n) false).run Tryz.prog w = .ok (num 1) w ∧ ∃ w',(Instr.mapUpdate 122 (.map (some b)) (str n) (num 2)).run Tryz.prog w = .ok () w'∧(Instr.lookup 122 (.map (some b)) (str n) false).run Tryz.prog w' = .ok (num 2) w'∧Hid (Chg [b] w w'):=by
 obtain ⟨es,hm,hes⟩:=h
 have hl:=run_getM (P:=Tryz.prog) Tryz.underlying122 Tryz.underlying9 (zero_int w) hm n
 rw [hes,if_pos hn] at hl
 obtain ⟨w',hu,hm',hc'⟩:=run_putM (P:=Tryz.prog) Tryz.underlying122 Tryz.underlying9 hm n (num 2)
 have hl':=run_getM (P:=Tryz.prog) Tryz.underlying122 Tryz.underlying9 (zero_int w') hm' n
 rw [getM_put,if_pos rfl] at hl'
 exact ⟨hl,w',hu,hl',Lib.hid hc'⟩
theorem place_plain (n:Int) (w:World) (hg:ErrLaid w):Calls Tryz.prog 52 #[.iface 32 (.int .i64 n)] w fun e w'=>e = .returned (.tuple #[.int .i64 n,.int .i64 (-1)])∧Chg [] w w':=by
 have HG:=Lib.hid hg; clear hg
 have hU : ∀ v w,(Instr.typeAssert (.iface 32 v) 38 172 true).run Tryz.prog w = .ok (.tuple #[.nilIface,.bool false]) w:=fun v w=>run_typeAssert_lacksB (z:=.nilIface) Tryz.underlying172 (by kernel_rfl) (by kernel_rfl) v 38 w
 have hA : ∀ v w,(Instr.typeAssert (.iface 32 v) 38 167 true).run Tryz.prog w = .ok (.tuple #[.pointer none,.bool false]) w:=fun v w=>by kernel_rfl
 go_enter Tryz.func52,Tryz.ntmps52
 go_wp2_with fail
 refine (tell_errno _ _ HG.out).mono ?_; rintro _ w' ⟨rfl,hc⟩
 have HC:=Lib.hid hc; clear hc
 go_wp2_with fail
 refine wp_loop_rounds 1 ?_
 rw [rounds_succ]
 go_wp2_with fail
 go_ret2
 exact ⟨rfl,HC.out⟩
def OutIs (w:World) (v:Value) (o:Check.Out):Prop:=match o with
 | .fine=>v = .nilIface
 | .plain n=>v = .iface 32 (.int .i64 n)
 | .at_ en p=>∃ b,v = .iface 167 (ptr b)∧Blk w b #[num en,num p] 168
theorem OutIs.kept {w w':World} {v:Value} {o:Check.Out} (h:OutIs w v o) (hc:Chg [] w w'):OutIs w' v o:=by
 cases o with
 | fine=>exact h
 | plain n=>exact h
 | at_ en p=>obtain ⟨b,h1,h2⟩:=h; exact ⟨b,h1,h2.kept hc (by simp)⟩
theorem outIs_of {w w':World} {o:Check.Out} {e:Ending} (h:CheckOut w o e w'):Chg [] w w' ∧ ∃ v,e = .returned v∧OutIs w' v o:=by
 cases o with
 | fine=>exact ⟨h.1,_,h.2,rfl⟩
 | plain n=>exact ⟨h.1,_,h.2,rfl⟩
 | at_ en p=>obtain ⟨h1,b,h2,_,h3⟩:=h; exact ⟨h1,_,h2,b,rfl,h3⟩
theorem place_out {w:World} {v:Value} {o:Check.Out} (hg:ErrLaid w) (h:OutIs w v o):Calls Tryz.prog 52 #[v] w fun e w'=>e = .returned (.tuple #[.int .i64 (oE o),.int .i64 (oP o)])∧Chg [] w w':=by
 cases o with
 | fine=>
  obtain rfl : v = .nilIface:=h
  refine (place_nil w).mono ?_; rintro _ _ ⟨rfl,rfl⟩; exact ⟨rfl,Chg.refl _ _⟩
 | plain n=>
  obtain rfl : v = .iface 32 (.int .i64 n):=h
  exact place_plain n w hg
 | at_ en p=>
  obtain ⟨b,rfl,hb⟩:=h
  exact place_at en p b w hg hb
theorem is_out {w:World} {v:Value} {o:Check.Out} (hg:ErrLaid w) (h:OutIs w v o):Calls Tryz.prog 11 #[v,.agg #[num (oE o),num (oP o)]] w fun e w'=>e = .returned (.bool true)∧Chg [] w w':=by
 obtain ⟨w0,hw0⟩ : ∃ x,x=w.alloc (.cells #[num (oE o),num (oP o)] 34):=⟨_,rfl⟩
 have hc0:Chg [] w w0:=hw0 ▸ (Chg.refl _ _).alloc _
 have hb0:Blk w0 w.heap.size #[num (oE o),num (oP o)] 34:=hw0 ▸ Blk.new w _ _
 have HP:=Lib.hid (place_out (w:=w0) (v:=v) (o:=o) (hg.kept hc0 (by simp)) (h.kept hc0)); have HB:=Lib.hid hb0; have HC0:=Lib.hid hc0
 obtain ⟨en,hen⟩ : ∃ x,x=oE o:=⟨_,rfl⟩
 obtain ⟨pp,hpp⟩ : ∃ x,x=oP o:=⟨_,rfl⟩
 rw [← hen,← hpp] at HP HB hw0 ⊢
 clear hb0 hc0 hg h hen hpp
 go_enter Tryz.func11,Tryz.ntmps11
 go_wp2_with fail
 rw [← hw0]
 refine HP.out.mono ?_; rintro _ w' ⟨rfl,hc⟩
 have hB:=HB.out.kept hc (by simp)
 have c0:=hB.cell 0 _ rfl
 have c1:=hB.cell 1 _ rfl
 have HC:=Lib.hid (HC0.out.then hc); clear hc hw0
 go_wp2_with fail
 go_ret
 exact ⟨rfl,HC.out⟩
theorem rbare_any (k:Int) (w:World):Calls Tryz.prog 62 #[num k] w fun e w'=>e = .returned (.agg #[num k,num (-1)])∧Chg [] w w':=by
 go_enter Tryz.func62,Tryz.ntmps62
 go_wp2_with fail
 refine bodyPost_ret (v:=.agg #[num k,num (-1)]) (by simp [results,Tryz.results62,go_sem]) rfl ⟨rfl,(Chg.refl [] w).alloc _⟩
end Go.Proofs.YtojkkgghndeimaaGreatDoor
namespace Go.Mq.Check
open Go Go.RowKit Go.Mq Go.Mq.Tree Go.Mq.Sym Go.Mq.Ref
theorem or_nz {a b:Look} (ha : ∀ x,a=some x→x.1≠0) (hb : ∀ x,b=some x→x.1≠0) : ∀ x,a.or b=some x→x.1≠0:=by
 intro x h
 cases a with
 | none=>exact hb x (by simpa using h)
 | some y=>exact ha x (by simpa using h)
theorem exprL_nz (c:Env) (e:E) : ∀ x,exprL c e=some x→x.1≠0:=by
 have:=visE_judge c e none
 rw [Option.none_or] at this
 induction e with
 | num p n=>intro x h; simp [exprL] at h
 | var p m n=>intro x h; exact judgeB_nz (t:=2) (k:=0) (by rw [judgeB]; exact h)
 | item p m n i ih=>
  rw [exprL]
  exact or_nz (fun x h=>judgeB_nz (c:=c) (t:=3) (p:=p) (m:=m) (n:=n) (k:=0) (by simpa [judgeB] using h)) (ih (by rw [visE_judge,Option.none_or]))
 | un p o x ih=>exact ih (by rw [visE_judge,Option.none_or])
 | bin p o x y ih1 ih2=>rw [exprL]; exact or_nz (ih1 (by rw [visE_judge,Option.none_or])) (ih2 (by rw [visE_judge,Option.none_or]))
 | app p m n l ih=>
  rw [exprL]
  exact or_nz (fun x h=>judgeB_nz (c:=c) (t:=6) (p:=p) (m:=m) (n:=n) (k:=argsN l) (by simpa [judgeB] using h)) (ih (by rw [visE_judge,Option.none_or]))
 | nil=>intro x h; simp [exprL] at h
 | cons x r ih1 ih2=>rw [exprL]; exact or_nz (ih1 (by rw [visE_judge,Option.none_or])) (ih2 (by rw [visE_judge,Option.none_or]))
theorem bodyL_nz (c:Env) (s:S) : ∀ x,Check.bodyL c s=some x→x.1≠0:=by
 induction s with
 | nil=>intro x h; simp [Check.bodyL] at h
 | set p n i v r ih=>
  cases i with
  | none=>rw [Check.bodyL]; exact or_nz (or_nz (exprL_nz c _) (exprL_nz c _)) ih
  | some y=>rw [Check.bodyL]; exact or_nz (or_nz (exprL_nz c _) (exprL_nz c _)) ih
 | ifs p v t e r ih1 ih2 ih3=>rw [Check.bodyL]; exact or_nz (or_nz (or_nz (exprL_nz c _) ih1) ih2) ih3
 | whil p v t r ih1 ih2=>rw [Check.bodyL]; exact or_nz (or_nz (exprL_nz c _) ih1) ih2
 | ret p v r ih=>rw [Check.bodyL]; exact or_nz (exprL_nz c _) ih
 | wri p v r ih=>rw [Check.bodyL]; exact or_nz (exprL_nz c _) ih
 | call p v r ih=>rw [Check.bodyL]; exact or_nz (exprL_nz c _) ih
end Go.Mq.Check
namespace Go.Proofs.YtojkkgghndeimaaGreatDoor
open Go Go.RowKit Go.Mq Go.Mq.Tree Go.Mq.Sym Go.Mq.Check Go.Mq.Ref
set_option maxRecDepth 100000
set_option maxHeartbeats 4000000
theorem jall_ok (c:Env) (F:Nat→Prop) (v vo vm:Value) (B:Nat) (s:S) (hn : s ≠ .nil→JAll c F v vo vm B .nil) (ha:AllB (JAll c F v vo vm B) s):JAll c F v vo vm B s:=by
 intro d hwf hfew vl w hE hL hB hF hsl
 obtain ⟨a,k0,cs,rfl,hk0,hrow,hs⟩:=hsl
 obtain ⟨tgt,htgt⟩ : ∃ t,t=Check.bodyL c s:=⟨_,rfl⟩
 rw [← htgt]
 obtain ⟨nm,ai,ci,av,cv,ap,cp,ab,nb,cb,al,cl,om,hv,rfl,rfl,_⟩:=hE.at_
 obtain ⟨wa,hwa⟩ : ∃ x,w.alloc (.cells #[str nm,.slice ai c.imports.length ci,.slice av c.vars.length cv,.slice ap c.procs.length cp,.slice ab nb cb] 31)=x:=⟨_,rfl⟩
 have hba:=Blk.new w #[str nm,.slice ai c.imports.length ci,.slice av c.vars.length cv,.slice ap c.procs.length cp,.slice ab nb cb] 31
 have hca:Chg [] w wa:=by rw [← hwa]; exact (Chg.refl _ _).alloc _
 have hsa : wa.heap.size=w.heap.size + 1:=by rw [← hwa]; simp
 rw [hwa] at hba
 obtain ⟨wb,hwb⟩ : ∃ x,wa.alloc (.cells #[.slice al c.locals.length cl] 25)=x:=⟨_,rfl⟩
 have hbb:=Blk.new wa #[.slice al c.locals.length cl] 25
 have hcb:Chg [] wa wb:=by rw [← hwb]; exact (Chg.refl _ _).alloc _
 have hsb : wb.heap.size=w.heap.size + 2:=by rw [← hwb]; simp [hsa]
 rw [hwb] at hbb
 obtain ⟨we,hwe⟩ : ∃ x,wb.alloc (.cells #[.map om] 44)=x:=⟨_,rfl⟩
 have hbe:=Blk.new wb #[.map om] 44
 have hce:Chg [] wb we:=by rw [← hwe]; exact (Chg.refl _ _).alloc _
 have hse : we.heap.size=w.heap.size + 3:=by rw [← hwe]; simp [hsb]
 rw [hwe] at hbe
 obtain ⟨wd,hwd⟩ : ∃ x,we.alloc (.cells #[num 0,num 0] 34)=x:=⟨_,rfl⟩
 have hbd:=Blk.new we #[num 0,num 0] 34
 have hcd:Chg [] we wd:=by rw [← hwd]; exact (Chg.refl _ _).alloc _
 have hsd : wd.heap.size=w.heap.size + 4:=by rw [← hwd]; simp [hse]
 rw [hwd] at hbd
 obtain ⟨wf,hwf'⟩ : ∃ x,wd.alloc (.cells #[num 0,num 0] 34)=x:=⟨_,rfl⟩
 have hbf:=Blk.new wd #[num 0,num 0] 34
 have hcf:Chg [] wd wf:=by rw [← hwf']; exact (Chg.refl _ _).alloc _
 rw [hwf'] at hbf
 obtain ⟨w1,hw1,hc1,hb1⟩:=set2F (num 0) (num (-1)) hbf
 have hcwd:Chg [] w wd:=((hca.then hcb).then hce).then hcd
 have hcw1:Chg [] wd w1:=hcf.trans hc1 (fun i hi=>.inr (by simp at hi; omega))
 have hcw:=hcwd.then hcw1
 have HJ:=Lib.hid (show JBox w1 F c v (.slice al c.locals.length cl) (.map om) B wd.heap.size w.heap.size wa.heap.size wb.heap.size from
  ⟨hE.kept hcw (by simp),hL.kept hcw (by simp),by omega,fun hf=>by have:=hF _ hf; omega,by omega,⟨_,hv,((((hba.kept hcb (by simp)).kept hce (by simp)).kept hcd (by simp)).kept hcw1 (by simp))⟩,((hbb.kept hce (by simp)).kept hcd (by simp)).kept hcw1 (by simp),(hbe.kept hcd (by simp)).kept hcw1 (by simp)⟩)
 have HRB:=Lib.hid (hbd.kept hcw1 (by simp))
 have HFI:=Lib.hid (show FaultI wd.heap.size none w1 from ⟨hb1,fun x hx=>by cases hx⟩)
 have HCW:=Lib.hid hcw
 have hLd:=hL.kept hcwd (by simp)
 have g0:=hLd.fine0; have g1:=hLd.fine1
 have e0:=hbf.cell 0 _ rfl; have e1:=hbf.cell 1 _ rfl; have f0:=hbf.frozen 0; have f1:=hbf.frozen 1
 have HROW:=Lib.hid (hrow.kept hcw (by simp)); have HS:=Lib.hid (hs.kept hcw (by simp)); have HA:=Lib.hid ha; have HN:=Lib.hid hn; have HTG:=Lib.hid htgt; have HWF:=Lib.hid hwf; have HFEW:=Lib.hid hfew; have HF:=Lib.hid hF; have HB:=Lib.hid hB
 have HSZ:=Lib.hid (And.intro hsd (And.intro hse (And.intro hsb hsa)))
 have HOUT:=Lib.hid (show ∀ x∈[wd.heap.size],¬ F x from fun x hx hf=>by simp at hx; have:=hF _ hf; omega)
 have HV:=Lib.hid hv
 have hmf : ∀ (fn:Fn) (first cap:Array Value) (w:World),(Instr.makeFunc fn first cap).run Tryz.prog w = .ok (.func fn first cap) w:=fun _ _ _ _=>rfl
 clear hba hca hsa hbb hcb hsb hbe hce hse hbd hcd hsd hbf hcf hc1 hb1 hcwd hcw1 hcw hLd hrow hs ha hn htgt hwf hfew hF hB hE hL
 rw [hv]
 clear hv
 go_enter Tryz.func63,Tryz.ntmps63
 go_wp2_with fail
 clear hwa hwb hwe hwd hwf' hw1 g0 g1 e0 e1 f0 f1
 go_loopw [12,13,15,20] (fun _ _ _ i wr=>∃ (k:Nat) (rest:S) (cs1 cs2:List Value),i=num k∧k + rest.len=s.len∧cs=cs1 ++ cs2∧cs1.length=k * 7∧SAt w1 F rest cs2∧WFS d rest∧(stmtK rest).length≤900000∧AllB (JAll c F v (.slice al c.locals.length cl) (.map om) B) rest∧Check.bodyL c rest=tgt∧FaultI wd.heap.size none wr∧Chg [wd.heap.size] w1 wr) (fun _ _ _ i _=>s.len - (intOf i).toNat)
 case atStart=>exact ⟨0,s,[],cs,rfl,by simp,rfl,rfl,HS.out,HWF.out,HFEW.out,HA.out,HTG.out.symm,HFI.out,Chg.refl _ _⟩
 case round=>
  obtain ⟨k,rest,cs1,cs2,rfl,hk,hcse,hl1,hat,hwr,hfr,har,htx,hfi,hc⟩:=hrel
  by_cases hlt : k < s.len
  ·have hsn : s ≠ .nil:=by rintro rfl; simp [S.len] at hlt
   rcases jview (HN.out hsn) rest hat hwr hfr har with hnil | ⟨code,p,n1,k1,n2,k2,nm,oi,ov,a1,a2,cs',r,g,x,t,e,hcs2,hr,hog,hox,hit,hie,har2,hwr2,hfr2,hle,hbl,hcode⟩
   ·exfalso; subst hnil; simp [S.len] at hk; omega
   have hrw:=HROW.out.kept hc HOUT.out
   rw [hcse,hcs2] at hrw
   obtain ⟨bb,off,rfl,d0,d1,d2,d3,d4,d5,d6⟩:=cells7C hrw hl1
   have HNX:=Lib.hid (show cs=(cs1 ++ [num code,num p,str nm,.pointer oi,.pointer ov,.slice a1 n1 k1,.slice a2 n2 k2]) ++ cs' by rw [hcse,hcs2]; simp)
   have HR:=Lib.hid hr; have HAR:=Lib.hid har2; have HFR:=Lib.hid hfr2; have HWR:=Lib.hid hwr2; have HOG:=Lib.hid hog; have HOX:=Lib.hid hox; have HIT:=Lib.hid hit; have HIE:=Lib.hid hie; have HCO:=Lib.hid hcode
   obtain ⟨l1,hl1e⟩ : ∃ y,y=headO c code p nm g:=⟨_,rfl⟩
   obtain ⟨l2,hl2e⟩ : ∃ y,y=(l1.or (exprO c g)).or (exprL c x):=⟨_,rfl⟩
   obtain ⟨lk,hlk⟩ : ∃ lk:Nat→Look,lk=fun i=>if i=0 then l2 else if i=1 then l2.or (Check.bodyL c t) else (l2.or (Check.bodyL c t)).or (Check.bodyL c e):=⟨_,rfl⟩
   have HLK:=Lib.hid (show lk 0=l2 by rw [hlk]; rfl)
   have HLK0:=Lib.hid (show lk 1=(lk 0).or (Check.bodyL c t) by rw [hlk]; rfl)
   have HLK1:=Lib.hid (show lk 2=(lk 1).or (Check.bodyL c e) by rw [hlk]; rfl)
   have HBL:=Lib.hid (show tgt=(lk 2).or (Check.bodyL c r) by rw [← htx,hbl,hlk,hl2e,hl1e]; rfl)
   have HL1E:=Lib.hid hl1e; have HL2E:=Lib.hid hl2e
   have HL1:=Lib.hid hl1; have HC:=Lib.hid hc; have HFR0:=Lib.hid hfi
   have hkr : k + (r.len + 1)=s.len:=by omega
   have HKR:=Lib.hid hkr
   clear hk hcse hl1 hat htx hc hfi har hwr hfr hcs2 hr hog hox hit hie har2 hwr2 hfr2 hle hbl hcode hrw hsn hlk hl1e hl2e hkr
   obtain ⟨wS,hwS⟩ : ∃ y,wr.alloc (.cells #[Value.int IntKind.i64 code,Value.int IntKind.i64 p,Value.string (bs nm),.pointer oi,.pointer ov,.slice a1 n1 k1,.slice a2 n2 k2] 138)=y:=⟨_,rfl⟩
   have hblk:=Blk.new wr #[num code,num p,str nm,.pointer oi,.pointer ov,.slice a1 n1 k1,.slice a2 n2 k2] 138
   have hcx:Chg [] wr wS:=by rw [← hwS]; exact (Chg.refl _ _).alloc _
   have hblk:Blk wS wr.heap.size #[num code,num p,str nm,.pointer oi,.pointer ov,.slice a1 n1 k1,.slice a2 n2 k2] 138:=by rw [← hwS]; exact hblk
   have e0:=hblk.cell 0 _ rfl
   have HBX:=Lib.hid (show wd.heap.size < wr.heap.size from HFR0.out.1.lt)
   have HBK:=Lib.hid hblk
   have HC1:=Lib.hid (HC.out.then hcx.weak)
   have HI1:=Lib.hid (FaultI.keep _ _ _ HFR0.out hcx)
   clear hblk hcx
   obtain ⟨wM,hwM⟩ : ∃ y,y=wr:=⟨_,rfl⟩
   subst hwM
   go_upto_if 26 with fail
   go_cut [13] (fun _ wx=>FaultI wd.heap.size l1 wx∧Chg [wd.heap.size] wS wx)
   case first=>
    have hcode:=HCO.out
    rcases hcode with h1 | ⟨h2,h6,rfl⟩
    ·have hd : ((code:Int) == 1)=true:=by rw [h1]; rfl
     have H1:=Lib.hid h1
     clear h1
     have e1:=HBK.out.cell 1 _ rfl; have e2:=HBK.out.cell 2 _ rfl; have e3:=HBK.out.cell 3 _ rfl
     have hog:=HOG.out
     have HSS:=Lib.hid (show wd.heap.size < wS.heap.size from HI1.out.1.lt)
     cases g with
     | none=>
      obtain rfl : oi=none:=hog
      obtain ⟨wB,hwB⟩ : ∃ y,wS.alloc (.cells #[num 2,num p,num 0,str [],str nm,str [],nilp,nilp,nils] 155)=y:=⟨_,rfl⟩
      have hbB:=Blk.new wS #[num 2,num p,num 0,str [],str nm,str [],nilp,nilp,nils] 155
      rw [hwB] at hbB
      have hcB:Chg [] wS wB:=by rw [← hwB]; exact (Chg.refl _ _).alloc _
      have HK:=Lib.hid (rlookB_any (HJ.out.kept (HC1.out.then hcB.weak)) 2 p (.inr (.inl rfl)) [] nm wS.heap.size _ _ _ _ none 0 0 (by omega) (by have:=HSS.out; omega) hbB wB none (Chg.refl _ _) (FaultI.keep _ _ _ HI1.out hcB))
      have HCB:=Lib.hid hcB
      have t3:=hcB.cellSome e3 (by simp)
      clear hbB hcB
      go_wp2_with fail
      refine HK.out.mono ?_; rintro _ w3 ⟨rfl,hi3,hc3⟩
      have HI3:=Lib.hid hi3; have HC3:=Lib.hid (HCB.out.weak.then hc3)
      clear hi3 hc3
      go_wp2_with fail
      go_meet
      refine ⟨?_,HC3.out⟩
      have:=HI3.out
      rw [Option.none_or] at this
      rw [HL1E.out,headO,if_pos H1.out]
      exact this
     | some y=>
      obtain ⟨qi,rfl⟩ : ∃ q,oi=some q:=Option.ne_none_iff_exists'.1 hog.2
      clear hog
      obtain ⟨wB,hwB⟩ : ∃ y,wS.alloc (.cells #[num 2,num p,num 0,str [],str nm,str [],nilp,nilp,nils] 155)=y:=⟨_,rfl⟩
      have hbB:=Blk.new wS #[num 2,num p,num 0,str [],str nm,str [],nilp,nilp,nils] 155
      rw [hwB] at hbB
      have hcB:Chg [] wS wB:=by rw [← hwB]; exact (Chg.refl _ _).alloc _
      obtain ⟨wC,hwC⟩ : ∃ x,wB.setCell ⟨wS.heap.size,0,none⟩ (num 3)=x:=⟨_,rfl⟩
      have hcC:Chg [wS.heap.size] wB wC:=by rw [← hwC]; exact Chg.set1 _ _ _ _
      have hbC:Blk wC wS.heap.size #[num 3,num p,num 0,str [],str nm,str [],nilp,nilp,nils] 155:=by rw [← hwC]; simpa using hbB.set 0 (num 3)
      have hcD:Chg [] wS wC:=hcB.trans hcC (fun x hx=>.inr (by simp at hx; omega))
      have HK:=Lib.hid (rlookB_any (HJ.out.kept (HC1.out.then hcD.weak)) 3 p (.inr (.inr (.inl rfl))) [] nm wS.heap.size _ _ _ _ none 0 0 (by omega) (by have:=HSS.out; omega) hbC wC none (Chg.refl _ _) (FaultI.keep _ _ _ HI1.out hcD))
      have HCB:=Lib.hid hcD
      have t3:=hcB.cellSome e3 (by simp)
      have y0:=hbB.frozen 0; have z0:=hbB.cell 0 _ rfl
      clear hbB hcB hbC hcC hcD
      go_wp2_with fail
      refine HK.out.mono ?_; rintro _ w3 ⟨rfl,hi3,hc3⟩
      have HI3:=Lib.hid hi3; have HC3:=Lib.hid (HCB.out.weak.then hc3)
      clear hi3 hc3
      go_wp2_with fail
      go_meet
      refine ⟨?_,HC3.out⟩
      have:=HI3.out
      rw [Option.none_or] at this
      rw [HL1E.out,headO,if_pos H1.out]
      exact this
    ·have hd : ((code:Int) == 1)=false:=by simp; omega
     clear h2 h6
     go_wp2_with fail
     go_meet
     exact ⟨by have:=HI1.out; rw [HL1E.out,headO,if_neg (by rintro rfl; simp at hd)]; exact this,Chg.refl _ _⟩
   case rest=>
    obtain ⟨hi2,hc2⟩:=hcut
    have HC2:=Lib.hid (HC1.out.then hc2)
    have HBK2:=Lib.hid (HBK.out.kept hc2 (by have:=HBX.out; simp; omega))
    obtain ⟨wT,hwT⟩ : ∃ y,wc.alloc (.cells #[num 0,num 0,str [],.pointer oi,.pointer ov,nils,nils] 138)=y:=⟨_,rfl⟩
    have hbT:=Blk.new wc #[num 0,num 0,str [],.pointer oi,.pointer ov,nils,nils] 138
    rw [hwT] at hbT
    have hcT:Chg [] wc wT:=by rw [← hwT]; exact (Chg.refl _ _).alloc _
    have hlt2 : wd.heap.size < wc.heap.size:=hi2.1.lt
    have hct2:=HC2.out.then hcT.weak
    have HW:=Lib.hid (show Calls Tryz.prog 90 #[.slice (some ⟨wc.heap.size,0,none⟩) 1 1,.func (.func 117) #[] #[ptr wd.heap.size,ptr w.heap.size,ptr wa.heap.size,ptr wb.heap.size]] wT (fun e w'=>e = .returned (.tuple #[])∧FaultI wd.heap.size l2 w'∧Chg [wd.heap.size] wT w') from by
     rw [HL2E.out]
     exact jwalk1 (HJ.out.kept hct2) (by have:=hcT.size; omega) g x oi ov (HOG.out.kept hct2 HOUT.out) (HOX.out.kept hct2 HOUT.out) wc.heap.size 1 (by omega) hbT wT l1 (Chg.refl _ _) (FaultI.keep _ _ _ hi2 hcT))
    have HCT:=Lib.hid (show Chg [wd.heap.size] w1 wT from hct2); have HBKT:=Lib.hid (HBK2.out.kept hcT (by simp))
    have e3:=HBK2.out.cell 3 _ rfl; have e4:=HBK2.out.cell 4 _ rfl
    clear hi2 hc2 hbT hcT hlt2 hct2
    go_wp2_with fail
    refine HW.out.mono ?_; rintro _ w4 ⟨rfl,hi4,hc4⟩
    have HC4:=Lib.hid (HCT.out.then hc4); have HI4:=Lib.hid hi4
    have hb4:=HBKT.out.kept hc4 (by have:=HBX.out; simp; omega)
    have e5:=hb4.cell 5 _ rfl; have e6:=hb4.cell 6 _ rfl
    clear hi4 hc4 hb4 e3 e4 hwT
    go_wp2_with fail
    clear e5 e6
    go_loopw [15,55] (fun _ j wr=>∃ i:Nat,(j = .int .i64 0∧i=0∨j = .int .i64 1∧i=1∨j = .int .i64 2∧i=2)∧FaultI wd.heap.size (lk i) wr∧Chg [wd.heap.size] w1 wr) (fun _ j _=>2 - (intOf j).toNat)
    case atStart=>exact ⟨0,.inl ⟨rfl,rfl⟩,by rw [HLK.out]; exact HI4.out,HC4.out⟩
    case round=>
     obtain ⟨i,hi,hfi,hc⟩:=hrel
     have HIR:=Lib.hid hfi; have HCR:=Lib.hid hc
     clear hfi hc
     rcases hi with ⟨rfl,rfl⟩ | ⟨rfl,rfl⟩ | ⟨rfl,rfl⟩
     ·skip
      have HIN:=HIT
      have hix : ∀ w',(Instr.index 193 (.agg #[.slice a1 n1 k1,.slice a2 n2 k2]) (.int .i64 0)).run Tryz.prog w' = .ok (.slice a1 n1 k1) w':=fun w'=>by kernel_rfl
      obtain ⟨tb,htb⟩ : ∃ x,x=Check.bodyL c t:=⟨_,rfl⟩
      have HTB:=Lib.hid htb
      clear htb
      cases hl : lk 0 with
      | some y=>
       rw [hl] at HIR
       obtain ⟨en,q⟩:=y
       have hne:=HIR.out.2 (en,q) rfl
       have hn1 : ((en:Int) == 0)=false:=by simp; simpa using hne
       have HLN:=Lib.hid (show lk 1=some (en,q) by rw [HLK0.out,hl]; rfl)
       have d0:=HIR.out.1.cell 0 _ rfl; have d1:=HIR.out.1.cell 1 _ rfl
       have hJr:=HJ.out.kept HCR.out
       have g0:=hJr.laid.fine0; have g1:=hJr.laid.fine1
       simp only [badE,badP] at d0 d1
       clear hne hJr hl
       go_wp2_with fail
       exact ⟨⟨1,.inr (.inl ⟨by first | rfl | go_num,rfl⟩),by rw [HLN.out]; exact HIR.out,HCR.out⟩,by simp [intOf]⟩
      | none=>
       rw [hl] at HIR
       have HLN:=Lib.hid (show lk 1=tb by rw [HLK0.out,hl,HTB.out]; rfl)
       have d0:=HIR.out.1.cell 0 _ rfl; have d1:=HIR.out.1.cell 1 _ rfl
       have hJr:=HJ.out.kept HCR.out
       have g0:=hJr.laid.fine0; have g1:=hJr.laid.fine1
       simp only [badE,badP] at d0 d1
       obtain ⟨cs,hcs,hmb⟩:=hJr.m
       rw [HV.out] at hcs
       cases hcs
       obtain ⟨m0,m1,m2,m3,m4⟩:=hmb.five
       have o0:=hJr.o.cell 0 _ rfl; have s0:=hJr.s.cell 0 _ rfl
       have hin:=HIN.out
       obtain ⟨d',hd'⟩:=hin.wf
       have hcall:=hin.all d' hd' hin.few (.slice a1 n1 k1) wr hJr.env hJr.laid (by have:=HB.out; have:=HCW.out.size; have:=HCR.out.size; omega) (fun x hx=>by have:=HF.out x hx; have:=HCW.out.size; have:=HCR.out.size; omega) (hin.at_.kept HCR.out HOUT.out)
       rw [← HTB.out,HV.out] at hcall
       have HCALL:=Lib.hid hcall
       clear hin hd' hcall hmb hJr hl
       go_wp2_with fail
       refine HCALL.out.mono ?_; rintro _ w5 ⟨rfl,hc5⟩
       obtain ⟨wZ,hwZ,hcZ,hbZ⟩:=set2F (num (badE tb)) (num (badP tb)) (HIR.out.1.kept hc5 (by simp))
       have x0:=(HIR.out.1.kept hc5 (by simp)).cell 0 _ rfl; have x1:=(HIR.out.1.kept hc5 (by simp)).cell 1 _ rfl
       have f0:=(HIR.out.1.kept hc5 (by simp)).frozen 0; have f1:=(HIR.out.1.kept hc5 (by simp)).frozen 1
       have HCZ:=Lib.hid (HCR.out.then (hc5.weak.then hcZ)); have HBZ:=Lib.hid hbZ
       clear hc5 hcZ hbZ d0 d1 m0 m1 m2 m3 m4 o0 s0 g0 g1
       go_wp2_with fail
       exact ⟨⟨1,.inr (.inl ⟨by first | rfl | go_num,rfl⟩),by rw [HLN.out]; exact ⟨HBZ.out,fun x hx=>bodyL_nz c t x (by rw [← HTB.out]; exact hx)⟩,HCZ.out⟩,by simp [intOf]⟩
     ·skip
      have HIN:=HIE
      have hix : ∀ w',(Instr.index 193 (.agg #[.slice a1 n1 k1,.slice a2 n2 k2]) (.int .i64 1)).run Tryz.prog w' = .ok (.slice a2 n2 k2) w':=fun w'=>by kernel_rfl
      obtain ⟨tb,htb⟩ : ∃ x,x=Check.bodyL c e:=⟨_,rfl⟩
      have HTB:=Lib.hid htb
      clear htb
      cases hl : lk 1 with
      | some y=>
       rw [hl] at HIR
       obtain ⟨en,q⟩:=y
       have hne:=HIR.out.2 (en,q) rfl
       have hn1 : ((en:Int) == 0)=false:=by simp; simpa using hne
       have HLN:=Lib.hid (show lk 2=some (en,q) by rw [HLK1.out,hl]; rfl)
       have d0:=HIR.out.1.cell 0 _ rfl; have d1:=HIR.out.1.cell 1 _ rfl
       have hJr:=HJ.out.kept HCR.out
       have g0:=hJr.laid.fine0; have g1:=hJr.laid.fine1
       simp only [badE,badP] at d0 d1
       clear hne hJr hl
       go_wp2_with fail
       exact ⟨⟨2,.inr (.inr ⟨by first | rfl | go_num,rfl⟩),by rw [HLN.out]; exact HIR.out,HCR.out⟩,by simp [intOf]⟩
      | none=>
       rw [hl] at HIR
       have HLN:=Lib.hid (show lk 2=tb by rw [HLK1.out,hl,HTB.out]; rfl)
       have d0:=HIR.out.1.cell 0 _ rfl; have d1:=HIR.out.1.cell 1 _ rfl
       have hJr:=HJ.out.kept HCR.out
       have g0:=hJr.laid.fine0; have g1:=hJr.laid.fine1
       simp only [badE,badP] at d0 d1
       obtain ⟨cs,hcs,hmb⟩:=hJr.m
       rw [HV.out] at hcs
       cases hcs
       obtain ⟨m0,m1,m2,m3,m4⟩:=hmb.five
       have o0:=hJr.o.cell 0 _ rfl; have s0:=hJr.s.cell 0 _ rfl
       have hin:=HIN.out
       obtain ⟨d',hd'⟩:=hin.wf
       have hcall:=hin.all d' hd' hin.few (.slice a2 n2 k2) wr hJr.env hJr.laid (by have:=HB.out; have:=HCW.out.size; have:=HCR.out.size; omega) (fun x hx=>by have:=HF.out x hx; have:=HCW.out.size; have:=HCR.out.size; omega) (hin.at_.kept HCR.out HOUT.out)
       rw [← HTB.out,HV.out] at hcall
       have HCALL:=Lib.hid hcall
       clear hin hd' hcall hmb hJr hl
       go_wp2_with fail
       refine HCALL.out.mono ?_; rintro _ w5 ⟨rfl,hc5⟩
       obtain ⟨wZ,hwZ,hcZ,hbZ⟩:=set2F (num (badE tb)) (num (badP tb)) (HIR.out.1.kept hc5 (by simp))
       have x0:=(HIR.out.1.kept hc5 (by simp)).cell 0 _ rfl; have x1:=(HIR.out.1.kept hc5 (by simp)).cell 1 _ rfl
       have f0:=(HIR.out.1.kept hc5 (by simp)).frozen 0; have f1:=(HIR.out.1.kept hc5 (by simp)).frozen 1
       have HCZ:=Lib.hid (HCR.out.then (hc5.weak.then hcZ)); have HBZ:=Lib.hid hbZ
       clear hc5 hcZ hbZ d0 d1 m0 m1 m2 m3 m4 o0 s0 g0 g1
       go_wp2_with fail
       exact ⟨⟨2,.inr (.inr ⟨by first | rfl | go_num,rfl⟩),by rw [HLN.out]; exact ⟨HBZ.out,fun x hx=>bodyL_nz c e x (by rw [← HTB.out]; exact hx)⟩,HCZ.out⟩,by simp [intOf]⟩
     ·skip
      cases hl : lk 2 with
      | none=>
       rw [hl] at HIR
       have HTT:=Lib.hid (show tgt=Check.bodyL c r by rw [HBL.out,hl]; rfl)
       have d0:=HIR.out.1.cell 0 _ rfl; have d1:=HIR.out.1.cell 1 _ rfl
       have hJr:=HJ.out.kept HCR.out
       have g0:=hJr.laid.fine0; have g1:=hJr.laid.fine1
       simp only [badE,badP] at d0 d1
       have hsl63:=Nat.le_trans (slen_leV s) HFEW.out
       clear hJr hl
       go_wp2_with fail
       exact ⟨⟨k + 1,r,_,cs',by go_num,by have:=HKR.out; omega,HNX.out,by have:=HL1.out; simp; omega,HR.out,HWR.out,HFR.out,HAR.out,HTT.out.symm,HIR.out,HCR.out⟩,by have:=HKR.out; simp [intOf]; omega⟩
      | some y=>
       rw [hl] at HIR
       obtain ⟨en,q⟩:=y
       have hne:=HIR.out.2 (en,q) rfl
       have hn1 : ((en:Int) == 0)=false:=by simp; simpa using hne
       have HTT:=Lib.hid (show tgt=some (en,q) by rw [HBL.out,hl]; rfl)
       have hJr:=HJ.out.kept HCR.out
       have g0:=hJr.laid.fine0; have g1:=hJr.laid.fine1
       clear hne hJr hl
       have HRW:=Lib.hid (HRB.out.kept HCR.out (by have:=HSZ.out; simp; omega))
       obtain ⟨wZ,hwZ,hcZ,hbZ⟩:=set2F (num (badE (some (en,q)))) (num (badP (some (en,q)))) HRW.out
       have x0:=HIR.out.1.cell 0 _ rfl; have x1:=HIR.out.1.cell 1 _ rfl
       have y0:=HRW.out.cell 0 _ rfl; have y1:=HRW.out.cell 1 _ rfl; have z0:=HRW.out.frozen 0; have z1:=HRW.out.frozen 1
       have v0:=hbZ.cell 0 _ rfl; have v1:=hbZ.cell 1 _ rfl
       have HCZ:=Lib.hid (show Chg [] w wZ from (HCW.out.trans HCR.out (fun x hx=>.inr (by have:=HSZ.out; simp at hx; omega))).trans hcZ (fun x hx=>.inr (by have:=HSZ.out; simp at hx; omega)))
       clear hcZ hbZ
       simp only [badE,badP] at x0 x1 hwZ v0 v1
       go_wp2_with fail
       refine bodyPost_ret (v:=.agg #[num en,num q]) (by simp [results,Tryz.results63,go_sem,v0,v1]) rfl ⟨?_,HCZ.out⟩
       rw [HTT.out]; rfl
  ·have HTT:=Lib.hid (show tgt=none by
    rw [← htx]
    have : rest.len=0:=by omega
    cases rest with
    | nil=>rfl
    | _=>simp [S.len] at this)
   have HIR:=Lib.hid hfi; have HCR:=Lib.hid hc
   clear hk hcse hl1 hat htx hc hfi har hwr hfr
   have HRW:=Lib.hid (HRB.out.kept HCR.out (by have:=HSZ.out; simp; omega))
   obtain ⟨wZ,hwZ,hcZ,hbZ⟩:=set2F (num (badE none)) (num (badP none)) HRW.out
   have x0:=HIR.out.1.cell 0 _ rfl; have x1:=HIR.out.1.cell 1 _ rfl
   have y0:=HRW.out.cell 0 _ rfl; have y1:=HRW.out.cell 1 _ rfl; have z0:=HRW.out.frozen 0; have z1:=HRW.out.frozen 1
   have v0:=hbZ.cell 0 _ rfl; have v1:=hbZ.cell 1 _ rfl
   have HCZ:=Lib.hid (show Chg [] w wZ from (HCW.out.trans HCR.out (fun x hx=>.inr (by have:=HSZ.out; simp at hx; omega))).trans hcZ (fun x hx=>.inr (by have:=HSZ.out; simp at hx; omega)))
   clear hcZ hbZ
   simp only [badE,badP] at x0 x1 hwZ v0 v1
   go_wp2_with fail
   refine bodyPost_ret (v:=.agg #[num 0,num (-1)]) (by simp [results,Tryz.results63,go_sem,v0,v1]) rfl ⟨?_,HCZ.out⟩
   rw [HTT.out]; rfl
theorem judges_all (c:Env) (F:Nat→Prop) (v vo vm:Value) (B:Nat) : ∀ s,JAll c F v vo vm B s∧AllB (JAll c F v vo vm B) s:=by
 have hnil:JAll c F v vo vm B .nil:=jall_ok c F v vo vm B .nil (fun h=>absurd rfl h) trivial
 intro s
 induction s with
 | nil=>exact ⟨hnil,trivial⟩
 | set p n i y r ih=>exact ⟨jall_ok c F v vo vm B _ (fun _=>hnil) ih.2,ih.2⟩
 | ifs p y t e r ih1 ih2 ih3=>
  have h:AllB (JAll c F v vo vm B) (.ifs p y t e r):=⟨ih1.1,ih2.1,ih3.2⟩
  exact ⟨jall_ok c F v vo vm B _ (fun _=>hnil) h,h⟩
 | whil p y t r ih1 ih2=>
  have h:AllB (JAll c F v vo vm B) (.whil p y t r):=⟨ih1.1,ih2.2⟩
  exact ⟨jall_ok c F v vo vm B _ (fun _=>hnil) h,h⟩
 | ret p y r ih=>exact ⟨jall_ok c F v vo vm B _ (fun _=>hnil) ih.2,ih.2⟩
 | wri p y r ih=>exact ⟨jall_ok c F v vo vm B _ (fun _=>hnil) ih.2,ih.2⟩
 | call p y r ih=>exact ⟨jall_ok c F v vo vm B _ (fun _=>hnil) ih.2,ih.2⟩
theorem rjudgeAll_any (c:Env) (F:Nat→Prop) (v vo vm:Value) (B:Nat) (s:S):JAll c F v vo vm B s:=(judges_all c F v vo vm B s).1
end Go.Proofs.YtojkkgghndeimaaGreatDoor
namespace Go.Proofs.YtojkkgghndeimaaGreatDoor
open Go Go.RowKit Go.Mq Go.Mq.Tree Go.Mq.Sym Go.Mq.Check Go.Mq.Ref
set_option maxRecDepth 100000
set_option maxHeartbeats 8000000
theorem bodyC_le {m:Mod} {x:Proc} (hx : x∈m.procs) : (stmtK x.body).length≤(modK m).length:=by
 have h1 : (procK x).length≤(m.procs.flatMap procK).length:=by
  generalize m.procs=ps at hx
  induction ps with
  | nil=>cases hx
  | cons y r ih=>
   rw [List.flatMap_cons,List.length_append]
   rcases List.mem_cons.1 hx with rfl | h
   ·omega
   ·have:=ih h; omega
 have h2 : (stmtK x.body).length≤(procK x).length:=by simp only [procK,List.length_append,List.length_cons]; omega
 have h3 : (m.procs.flatMap procK).length≤(modK m).length:=by simp only [modK,List.length_append,List.length_cons]; omega
 omega
theorem mbodyC_le (m:Mod) : (stmtK m.body).length≤(modK m).length:=by simp only [modK,List.length_append,List.length_cons]; omega
theorem rcheck_any (m:Mod) (hwm:WFM m) (hmk : (modK m).length≤900000) (hm:FewM m) (seen:List UInt8→Option (List Sy)) (F:Nat→Prop) (v vm:Value) (w:World) (B:Nat) (hRL:RLaid w B) (hBw:B≤w.heap.size) (hF : ∀ x,F x→x < w.heap.size) (hmod:ModAt w F m v) (hs:SeenAt w F seen vm) :
  Calls Tryz.prog 15 #[v,vm] w (fun e w'=>e = .returned (outV (check m seen))∧Chg [] w w'):=by
 have hmm:=@run_makeMap Tryz.prog
 obtain ⟨ov,rfl⟩ : ∃ ov,vm = .map ov:=by
  rcases hs with ⟨h,_⟩ | ⟨b,_,h,_⟩
  ·exact ⟨_,h⟩
  ·exact ⟨_,h⟩
 obtain ⟨vi,vv,vp,vb,rfl,⟨ai,ci,rfl,hi1,hi2⟩,⟨av,cv,rfl,hv1,hv2⟩,⟨ap,cp,pcs,rfl,hp1,hp2,hp3⟩,⟨ab,cb,bcs,rfl,hb1,hb2,hb3⟩⟩:=hmod
 obtain ⟨wm,hwm'⟩ : ∃ x,w.alloc (.cells #[str m.name,.slice ai m.imports.length ci,.slice av m.vars.length cv,.slice ap m.procs.length cp,.slice ab m.body.len cb] 31)=x:=⟨_,rfl⟩
 have hmb:=Blk.new w #[str m.name,.slice ai m.imports.length ci,.slice av m.vars.length cv,.slice ap m.procs.length cp,.slice ab m.body.len cb] 31
 have hcm:Chg [] w wm:=by rw [← hwm']; exact (Chg.refl _ _).alloc _
 have hsm : wm.heap.size=w.heap.size + 1:=by rw [← hwm']; simp
 rw [hwm'] at hmb
 obtain ⟨w0,hw0⟩ : ∃ x,wm.alloc (.cells #[num 0,num 0] 34)=x:=⟨_,rfl⟩
 have heb:=Blk.new wm #[num 0,num 0] 34
 have hc0:Chg [] wm w0:=by rw [← hw0]; exact (Chg.refl _ _).alloc _
 have hs0 : w0.heap.size=w.heap.size + 2:=by rw [← hw0]; simp [hsm]
 rw [hw0] at heb
 have hcw:=hcm.then hc0
 have HMB:=Lib.hid (hmb.kept hc0 (by simp)); have HEB:=Lib.hid heb; have HCW:=Lib.hid hcw
 have HIR:=Lib.hid (hi2.kept hcw (by simp)); have HVR:=Lib.hid (hv2.kept hcw (by simp)); have HPR:=Lib.hid (hp2.kept hcw (by simp)); have HPS:=Lib.hid (hp3.kept hcw (by simp))
 have HSB:=Lib.hid (show SlAt w0 F m.body (.slice ab m.body.len cb) from SlAt.kept hcw (by simp) ⟨ab,cb,bcs,rfl,hb1,hb2,hb3⟩)
 have HSN:=Lib.hid (hs.kept hcw (by simp))
 have HM:=Lib.hid hm; have HFB:=Lib.hid hF; have HWM:=Lib.hid hwm; have HMK:=Lib.hid hmk; have HRL:=Lib.hid (hRL.kept hcw (by simp)); have HBW:=Lib.hid hBw
 have HS:=Lib.hid (And.intro hsm hs0)
 obtain ⟨tgt,htgt⟩ : ∃ t,t=check m seen:=⟨_,rfl⟩
 rw [← htgt]
 obtain ⟨it,hit⟩ : ∃ x,x=importsL m.name seen [] m.imports:=⟨_,rfl⟩
 have HTG:=Lib.hid htgt; have HIT:=Lib.hid hit
 have him:=hm.imports; have hmv:=hm.vars; have hmp:=hm.procs
 clear hs hm hF htgt hit hmb heb hcm hc0 hcw hi2 hv2 hp2 hp3 hb2 hb3 hsm hs0 hwm hmk hRL hBw
 have m0:=HMB.out.cell 0 _ rfl; have m1:=HMB.out.cell 1 _ rfl
 go_enter Tryz.func15,Tryz.ntmps15
 go_wp2_with fail
 clear hwm' hw0 m0 m1
 go_loopw [5,6,8,9,10,26] (fun _ _ _ _ _ i wr=>∃ k:Nat,i = .int .i64 k∧k≤m.imports.length∧importsL m.name seen (m.imports.take k) (m.imports.drop k)=it∧Chg [] w0 wr) (fun _ _ _ _ _ i _=>m.imports.length - (intOf i).toNat)
 case atStart=>exact ⟨0,rfl,Nat.zero_le _,by rw [HIT.out] <;> rfl,Chg.refl _ _⟩
 case round=>
  obtain ⟨k,rfl,hk,hin,hc⟩:=hrel
  have HIN:=Lib.hid hin; have HC:=Lib.hid hc
  clear hin hc
  by_cases hlt : k < m.imports.length
  ·have m0:=(HMB.out.kept HC.out (by simp)).cell 0 _ rfl; have m1:=(HMB.out.kept HC.out (by simp)).cell 1 _ rfl
   obtain ⟨n,hn⟩ : ∃ n,m.imports[k]?=some n:=⟨m.imports[k],List.getElem?_eq_getElem hlt⟩
   obtain ⟨b,o,rfl,d0⟩:=names_cell (HIR.out.kept HC.out (by simp)) hn
   have HN:=Lib.hid hn
   have HIS:=Lib.hid (show importsL m.name seen (m.imports.take k) (n :: m.imports.drop (k + 1))=it by rw [← drop_cons hn]; exact HIN.out)
   clear hn
   cases hq : (n == m.name) with
   | true=>
    have HT:=Lib.hid (show tgt = .plain 10 by
     rw [HTG.out]
     refine check_plain ?_
     rw [← HIT.out,← HIS.out,importsL,if_pos (.inl (by simpa using hq))])
    go_wp2_with fail
    refine (rbare_any 10 _).mono ?_; rintro _ w9 ⟨rfl,hc9⟩
    have HC9:=Lib.hid (HC.out.then hc9)
    clear hc9
    obtain ⟨wZ,hwZ,hcZ,hbZ⟩:=set2F (num 10) (num (-1)) (HEB.out.kept HC9.out (by simp))
    have y0:=(HEB.out.kept HC9.out (by simp)).cell 0 _ rfl; have y1:=(HEB.out.kept HC9.out (by simp)).cell 1 _ rfl; have z0:=(HEB.out.kept HC9.out (by simp)).frozen 0; have z1:=(HEB.out.kept HC9.out (by simp)).frozen 1
    have v0:=hbZ.cell 0 _ rfl; have v1:=hbZ.cell 1 _ rfl
    have HCZ:=Lib.hid (show Chg [] w wZ from (HCW.out.then HC9.out).trans hcZ (fun x hx=>.inr (by have:=HS.out; simp at hx; omega)))
    clear hcZ hbZ
    go_wp2_with fail
    refine bodyPost_ret (v:=.agg #[num 10,num (-1)]) (by simp [results,Tryz.results15,go_sem,v0,v1]) rfl ⟨by rw [HT.out]; rfl,HCZ.out⟩
   | false=>
    have hqn : ¬ n=m.name:=by simpa using hq
    go_wp2_with fail
    obtain ⟨wI,hwI⟩ : ∃ x,x=wr:=⟨_,rfl⟩
    subst hwI
    clear m0 m1 d0
    go_loopw [8,41] (fun _ i wr=>∃ j:Nat,i = .int .i64 j∧j≤k∧Chg [] w0 wr∧n∉m.imports.take j) (fun _ i _=>k - (intOf i).toNat)
    case atStart=>exact ⟨0,rfl,Nat.zero_le _,HC.out,by simp⟩
    case round=>
     obtain ⟨j,rfl,hj,hc,hno⟩:=hrel
     have HC2:=Lib.hid hc; have HNO:=Lib.hid hno
     clear hc hno
     by_cases hjk : j < k
     ·obtain ⟨x,hx⟩ : ∃ x,m.imports[j]?=some x:=⟨m.imports[j]'(by omega),List.getElem?_eq_getElem (by omega)⟩
      obtain ⟨b2,o2,he2,d0⟩:=names_cell (HIR.out.kept HC2.out (by simp)) hx
      cases he2
      have HX:=Lib.hid hx
      clear hx
      cases hq2 : (x == n) with
      | true=>
       have HT:=Lib.hid (show tgt = .plain 10 by
        rw [HTG.out]
        refine check_plain ?_
        have hxn : x=n:=by simpa using hq2
        rw [← HIT.out,← HIS.out,importsL,if_pos (.inr (by
         rw [← hxn]
         refine List.mem_of_getElem? (i:=j) ?_
         rw [List.getElem?_take,if_pos hjk]; exact HX.out))])
       go_wp2_with fail
       refine (rbare_any 10 _).mono ?_; rintro _ w9 ⟨rfl,hc9⟩
       have HC9:=Lib.hid (HC2.out.then hc9)
       clear hc9
       obtain ⟨wZ,hwZ,hcZ,hbZ⟩:=set2F (num 10) (num (-1)) (HEB.out.kept HC9.out (by simp))
       have y0:=(HEB.out.kept HC9.out (by simp)).cell 0 _ rfl; have y1:=(HEB.out.kept HC9.out (by simp)).cell 1 _ rfl; have z0:=(HEB.out.kept HC9.out (by simp)).frozen 0; have z1:=(HEB.out.kept HC9.out (by simp)).frozen 1
       have v0:=hbZ.cell 0 _ rfl; have v1:=hbZ.cell 1 _ rfl
       have HCZ:=Lib.hid (show Chg [] w wZ from (HCW.out.then HC9.out).trans hcZ (fun x hx=>.inr (by have:=HS.out; simp at hx; omega)))
       clear hcZ hbZ
       go_wp2_with fail
       refine bodyPost_ret (v:=.agg #[num 10,num (-1)]) (by simp [results,Tryz.results15,go_sem,v0,v1]) rfl ⟨by rw [HT.out]; rfl,HCZ.out⟩
      | false=>
       have HNX:=Lib.hid (show n∉m.imports.take (j + 1) by
        rw [take_snoc HX.out]
        have : ¬ x=n:=by simpa using hq2
        simp only [List.mem_append,List.mem_singleton,not_or]
        exact ⟨HNO.out,fun h=>this h.symm⟩)
       go_wp2_with fail
       exact ⟨⟨j + 1,by go_num,by omega,HC2.out,HNX.out⟩,by simp [intOf]; omega⟩
     ·have hni : ¬ (n=m.name∨n∈m.imports.take k):=by
       have hjk2 : j=k:=by omega
       simp only [not_or]; exact ⟨hqn,by rw [← hjk2]; exact HNO.out⟩
      obtain ⟨u,_,hlk,_,_⟩:=look_seen (HSN.out.kept HC2.out (by simp)) n
      have hlu:=hlk wr (Chg.refl _ _)
      clear hlk hqn
      cases hsn : (seen n).isSome with
      | false=>
       rw [hsn] at hlu
       have HT:=Lib.hid (show tgt = .plain 8 by
        rw [HTG.out]
        refine check_plain ?_
        rw [← HIT.out,← HIS.out,importsL,if_neg hni,if_pos (by simpa using hsn)])
       clear hni hsn
       go_wp2_with fail
       refine (rbare_any 8 _).mono ?_; rintro _ w9 ⟨rfl,hc9⟩
       have HC9:=Lib.hid (HC2.out.then hc9)
       clear hc9
       obtain ⟨wZ,hwZ,hcZ,hbZ⟩:=set2F (num 8) (num (-1)) (HEB.out.kept HC9.out (by simp))
       have y0:=(HEB.out.kept HC9.out (by simp)).cell 0 _ rfl; have y1:=(HEB.out.kept HC9.out (by simp)).cell 1 _ rfl; have z0:=(HEB.out.kept HC9.out (by simp)).frozen 0; have z1:=(HEB.out.kept HC9.out (by simp)).frozen 1
       have v0:=hbZ.cell 0 _ rfl; have v1:=hbZ.cell 1 _ rfl
       have HCZ:=Lib.hid (show Chg [] w wZ from (HCW.out.then HC9.out).trans hcZ (fun x hx=>.inr (by have:=HS.out; simp at hx; omega)))
       clear hcZ hbZ
       go_wp2_with fail
       refine bodyPost_ret (v:=.agg #[num 8,num (-1)]) (by simp [results,Tryz.results15,go_sem,v0,v1]) rfl ⟨by rw [HT.out]; rfl,HCZ.out⟩
      | true=>
       rw [hsn] at hlu
       have HNX:=Lib.hid (show importsL m.name seen (m.imports.take (k + 1)) (m.imports.drop (k + 1))=it by
        rw [take_snoc HN.out,← HIS.out]
        conv=>rhs; rw [importsL,if_neg hni,if_neg (by simp; intro h; rw [h] at hsn; cases hsn)])
       clear hni hsn
       go_wp2_with fail
       exact ⟨⟨k + 1,by go_num,by omega,HNX.out,HC2.out⟩,by simp [intOf]; omega⟩
  ·have HRS:=Lib.hid (show tgt = .of (behindL m seen) by
    rw [HTG.out]
    refine check_rest ?_
    rw [← HIT.out,← HIN.out,List.drop_eq_nil_of_le (by omega)]; rfl)
   obtain ⟨wL,hwL⟩ : ∃ x,x=wr:=⟨_,rfl⟩
   subst hwL
   obtain ⟨wN,hwN⟩ : ∃ x,wL.alloc (.map #[] 0)=x:=⟨_,rfl⟩
   have HCN:=Lib.hid (show Chg [] w0 wN from HC.out.then (by rw [← hwN]; exact (Chg.refl [] wL).alloc _))
   have HAD:=Lib.hid (show CntIs wN wL.heap.size [] by rw [← hwN]; exact CntIs.made wL)
   have HMN:=Lib.hid (show w0.heap.size≤wL.heap.size from HC.out.size)
   have m2:=(HMB.out.kept HCN.out (by simp)).cell 2 _ rfl
   clear HIN HIT HTG HC
   go_wp2_with fail
   clear hwN m2 hk hlt
   go_loopw [13,64] (fun _ i wr=>∃ (k:Nat) (had:List (List UInt8)),i = .int .i64 k∧k≤m.vars.length∧Chg [] w0 wr∧CntIs wr wL.heap.size had∧onceL had ((m.vars.drop k).map (fun g=>(g.name,g.pos)) ++ m.procs.map fun x=>(x.name,x.pos))=onceL [] (m.vars.map (fun g=>(g.name,g.pos)) ++ m.procs.map fun x=>(x.name,x.pos))) (fun _ i _=>m.vars.length - (intOf i).toNat)
   case atStart=>exact ⟨0,[],rfl,Nat.zero_le _,HCN.out,HAD.out,rfl⟩
   case round=>
    obtain ⟨k,had,rfl,hk,hc,hhad,hon⟩:=hrel
    have HC:=Lib.hid hc; have HH:=Lib.hid hhad; have HON:=Lib.hid hon
    clear hc hhad hon
    by_cases hlt : k < m.vars.length
    ·obtain ⟨g,hg⟩ : ∃ g,m.vars[k]?=some g:=⟨m.vars[k],List.getElem?_eq_getElem hlt⟩
     obtain ⟨b,o,rfl,d0,d1,d2,d3⟩:=glob_cells (HVR.out.kept HC.out (by simp)) hg
     have HOS:=Lib.hid (show onceL had ((g.name,g.pos) :: ((m.vars.drop (k + 1)).map (fun g=>(g.name,g.pos)) ++ m.procs.map fun x=>(x.name,x.pos)))=onceL [] (m.vars.map (fun g=>(g.name,g.pos)) ++ m.procs.map fun x=>(x.name,x.pos)) by
      rw [← HON.out,drop_cons hg]; rfl)
     have hz:=Blk.new wr #[str [],.int .i64 0,.int .i64 0,.bool false] 84
     obtain ⟨wA,hwA⟩ : ∃ x,wr.alloc (.cells #[str [],.int .i64 0,.int .i64 0,.bool false] 84)=x:=⟨_,rfl⟩
     rw [hwA] at hz
     have hcA:Chg [] wr wA:=by rw [← hwA]; exact (Chg.refl _ _).alloc _
     obtain ⟨wF,hwF,hcF,hbF⟩:=set4S (str g.name) (.int .i64 g.pos) (.int .i64 g.len) (.bool g.seen) hz
     have hcw:Chg [] wr wF:=hcA.trans hcF (fun x hx=>.inr (by simp at hx; omega))
     have g0:=hcA.cellSome d0 (by simp); have g1:=hcA.cellSome d1 (by simp); have g2:=hcA.cellSome d2 (by simp); have g3:=hcA.cellSome d3 (by simp)
     have z0:=hz.cell 0 _ rfl; have z1:=hz.cell 1 _ rfl; have z2:=hz.cell 2 _ rfl; have z3:=hz.cell 3 _ rfl
     have y0:=hz.frozen 0; have y1:=hz.frozen 1; have y2:=hz.frozen 2; have y3:=hz.frozen 3
     have e0:=hbF.cell 0 _ rfl; have e1:=hbF.cell 1 _ rfl
     have HCF:=Lib.hid (HC.out.then hcw); have HBF:=Lib.hid hbF
     have HCT:=Lib.hid (HH.out.kept hcw (by simp))
     have HLB:=Lib.hid (show wL.heap.size < wr.heap.size from HH.out.lt)
     clear hg hz hcA hcF hbF hcw
     by_cases hgi : g.name∈had
     ·obtain ⟨hl0,wU,hmu,hl1',hcU⟩:=cnt_hit HCT.out g.name hgi
      have HCU:=Lib.hid (show Chg [] w0 wU from HCF.out.trans hcU.out (fun x hx=>.inr (by have:=HMN.out; simp at hx; omega)))
      have hbu:=HBF.out.kept hcU.out (by have:=HLB.out; simp; omega)
      have u0:=hbu.cell 0 _ rfl; have u1:=hbu.cell 1 _ rfl
      have HT:=Lib.hid (show tgt = .at_ 9 g.pos by
       rw [HRS.out,behindL,← HOS.out,onceL,if_pos hgi]; rfl)
      clear hgi hbu hcU
      obtain ⟨wZ,hwZ,hcZ,hbZ⟩:=set2F (num 9) (num g.pos) (HEB.out.kept HCU.out (by simp))
      have y0:=(HEB.out.kept HCU.out (by simp)).cell 0 _ rfl; have y1:=(HEB.out.kept HCU.out (by simp)).cell 1 _ rfl; have z0:=(HEB.out.kept HCU.out (by simp)).frozen 0; have z1:=(HEB.out.kept HCU.out (by simp)).frozen 1
      have v0:=hbZ.cell 0 _ rfl; have v1:=hbZ.cell 1 _ rfl
      have HCZ:=Lib.hid (show Chg [] w wZ from (HCW.out.then HCU.out).trans hcZ (fun x hx=>.inr (by have:=HS.out; simp at hx; omega)))
      clear hcZ hbZ
      go_wp2_with fail
      refine bodyPost_ret (v:=.agg #[num 9,num g.pos]) (by simp [results,Tryz.results15,go_sem,v0,v1]) rfl ⟨by rw [HT.out]; rfl,HCZ.out⟩
     ·obtain ⟨hl0,wU,hmu,hl1',hnU,hcU⟩:=cnt_miss HCT.out g.name hgi
      have HCU:=Lib.hid (show Chg [] w0 wU from HCF.out.trans hcU.out (fun x hx=>.inr (by have:=HMN.out; simp at hx; omega)))
      have hbu:=HBF.out.kept hcU.out (by have:=HLB.out; simp; omega)
      have u0:=hbu.cell 0 _ rfl; have u1:=hbu.cell 1 _ rfl
      have HNX:=Lib.hid (show onceL (g.name :: had) ((m.vars.drop (k + 1)).map (fun g=>(g.name,g.pos)) ++ m.procs.map fun x=>(x.name,x.pos))=onceL [] (m.vars.map (fun g=>(g.name,g.pos)) ++ m.procs.map fun x=>(x.name,x.pos)) by
       rw [← HOS.out]
       conv=>rhs; rw [onceL,if_neg hgi])
      clear hgi hbu
      go_wp2_with fail
      exact ⟨⟨k + 1,g.name :: had,by go_num,by omega,HCU.out,hnU.out,HNX.out⟩,by simp [intOf]; omega⟩
    ·have HRO:=Lib.hid (show onceL had (m.procs.map fun x=>(x.name,x.pos))=onceL [] (m.vars.map (fun g=>(g.name,g.pos)) ++ m.procs.map fun x=>(x.name,x.pos)) by
      rw [← HON.out,List.drop_eq_nil_of_le (by omega)]; rfl)
     obtain ⟨wP,hwP⟩ : ∃ x,x=wr:=⟨_,rfl⟩
     subst hwP
     have m3:=(HMB.out.kept HC.out (by simp)).cell 3 _ rfl
     have HCP:=Lib.hid HC.out; have HHP:=Lib.hid HH.out
     clear HON HC HH
     go_wp2_with fail
     clear m3 hk hlt
     go_loopw [15,85] (fun _ i wr=>∃ (k:Nat) (had:List (List UInt8)),i = .int .i64 k∧k≤m.procs.length∧Chg [] w0 wr∧CntIs wr wL.heap.size had∧onceL had ((m.procs.drop k).map fun x=>(x.name,x.pos))=onceL [] (m.vars.map (fun g=>(g.name,g.pos)) ++ m.procs.map fun x=>(x.name,x.pos))) (fun _ i _=>m.procs.length - (intOf i).toNat)
     case atStart=>exact ⟨0,_,rfl,Nat.zero_le _,HCP.out,HHP.out,HRO.out⟩
     case round=>
      obtain ⟨k,had,rfl,hk,hc,hhad,hon⟩:=hrel
      have HC:=Lib.hid hc; have HH:=Lib.hid hhad; have HON:=Lib.hid hon
      clear hc hhad hon
      by_cases hlt : k < m.procs.length
      ·obtain ⟨x,hx⟩ : ∃ x,m.procs[k]?=some x:=⟨m.procs[k],List.getElem?_eq_getElem hlt⟩
       obtain ⟨cs1,d,cs',hpe,hl1,_,_,_,rfl,⟨p1,q1,rfl,hq1,hr1⟩,⟨p2,q2,rfl,hq2,hr2⟩,⟨p3,q3,bs3,rfl,hq3,hr3,hs3⟩⟩:=prsAt_at HPS.out hx
       have hrw:=HPR.out.kept HC.out (by simp)
       rw [hpe] at hrw
       obtain ⟨b,o,rfl,d0,d1,d2,d3,d4,d5⟩:=cells6S (cs':=cs') hrw hl1
       clear hrw hpe
       clear hl1 hr1 hr2 hr3 hs3
       have hz:=Blk.new wr #[str [],.int .i64 0,.bool false,nils,nils,nils] 87
       obtain ⟨wA,hwA⟩ : ∃ x,wr.alloc (.cells #[str [],.int .i64 0,.bool false,nils,nils,nils] 87)=x:=⟨_,rfl⟩
       rw [hwA] at hz
       have hcA:Chg [] wr wA:=by rw [← hwA]; exact (Chg.refl _ _).alloc _
       obtain ⟨wF,hwF,hcF,hbF⟩:=set6S (str x.name) (.int .i64 x.pos) (.bool x.seen) (.slice p1 x.params.length q1) (.slice p2 x.vars.length q2) (.slice p3 x.body.len q3) hz
       have hcw:Chg [] wr wF:=hcA.trans hcF (fun x hx=>.inr (by simp at hx; omega))
       have g0:=hcA.cellSome d0 (by simp); have g1:=hcA.cellSome d1 (by simp); have g2:=hcA.cellSome d2 (by simp); have g3:=hcA.cellSome d3 (by simp); have g4:=hcA.cellSome d4 (by simp); have g5:=hcA.cellSome d5 (by simp)
       have z0:=hz.cell 0 _ rfl; have z1:=hz.cell 1 _ rfl; have z2:=hz.cell 2 _ rfl; have z3:=hz.cell 3 _ rfl; have z4:=hz.cell 4 _ rfl; have z5:=hz.cell 5 _ rfl
       have y0:=hz.frozen 0; have y1:=hz.frozen 1; have y2:=hz.frozen 2; have y3:=hz.frozen 3; have y4:=hz.frozen 4; have y5:=hz.frozen 5
       have e0:=hbF.cell 0 _ rfl; have e1:=hbF.cell 1 _ rfl
       have HCF:=Lib.hid (HC.out.then hcw); have HBF:=Lib.hid hbF
       have HOS:=Lib.hid (show onceL had ((x.name,x.pos) :: (m.procs.drop (k + 1)).map fun x=>(x.name,x.pos))=onceL [] (m.vars.map (fun g=>(g.name,g.pos)) ++ m.procs.map fun x=>(x.name,x.pos)) by
        rw [← HON.out,drop_cons hx]; rfl)
       have HCT:=Lib.hid (HH.out.kept hcw (by simp))
       have HLB:=Lib.hid (show wL.heap.size < wr.heap.size from HH.out.lt)
       clear hx hz hcA hcF hbF hcw
       by_cases hgi : x.name∈had
       ·obtain ⟨hl0,wU,hmu,hl1',hcU⟩:=cnt_hit HCT.out x.name hgi
        have HCU:=Lib.hid (show Chg [] w0 wU from HCF.out.trans hcU.out (fun x hx=>.inr (by have:=HMN.out; simp at hx; omega)))
        have hbu:=HBF.out.kept hcU.out (by have:=HLB.out; simp; omega)
        have u0:=hbu.cell 0 _ rfl; have u1:=hbu.cell 1 _ rfl
        have HT:=Lib.hid (show tgt = .at_ 9 x.pos by
         rw [HRS.out,behindL,← HOS.out,onceL,if_pos hgi]; rfl)
        clear hgi hbu hcU
        obtain ⟨wZ,hwZ,hcZ,hbZ⟩:=set2F (num 9) (num x.pos) (HEB.out.kept HCU.out (by simp))
        have y0:=(HEB.out.kept HCU.out (by simp)).cell 0 _ rfl; have y1:=(HEB.out.kept HCU.out (by simp)).cell 1 _ rfl; have z0:=(HEB.out.kept HCU.out (by simp)).frozen 0; have z1:=(HEB.out.kept HCU.out (by simp)).frozen 1
        have v0:=hbZ.cell 0 _ rfl; have v1:=hbZ.cell 1 _ rfl
        have HCZ:=Lib.hid (show Chg [] w wZ from (HCW.out.then HCU.out).trans hcZ (fun x hx=>.inr (by have:=HS.out; simp at hx; omega)))
        clear hcZ hbZ
        go_wp2_with fail
        refine bodyPost_ret (v:=.agg #[num 9,num x.pos]) (by simp [results,Tryz.results15,go_sem,v0,v1]) rfl ⟨by rw [HT.out]; rfl,HCZ.out⟩
       ·obtain ⟨hl0,wU,hmu,hl1',hnU,hcU⟩:=cnt_miss HCT.out x.name hgi
        have HCU:=Lib.hid (show Chg [] w0 wU from HCF.out.trans hcU.out (fun x hx=>.inr (by have:=HMN.out; simp at hx; omega)))
        have hbu:=HBF.out.kept hcU.out (by have:=HLB.out; simp; omega)
        have u0:=hbu.cell 0 _ rfl; have u1:=hbu.cell 1 _ rfl
        have HNX:=Lib.hid (show onceL (x.name :: had) ((m.procs.drop (k + 1)).map fun x=>(x.name,x.pos))=onceL [] (m.vars.map (fun g=>(g.name,g.pos)) ++ m.procs.map fun x=>(x.name,x.pos)) by
         rw [← HOS.out]
         conv=>rhs; rw [onceL,if_neg hgi])
        clear hgi hbu
        go_wp2_with fail
        exact ⟨⟨k + 1,x.name :: had,by go_num,by omega,HCU.out,hnU.out,HNX.out⟩,by simp [intOf]; omega⟩
      ·have HRS:=Lib.hid (show tgt = .of ((procsL m seen m.procs).or (Check.bodyL ⟨m.imports,seen,[],m.vars,m.procs⟩ m.body)) by
        have h0 : onceL [] (m.vars.map (fun g=>(g.name,g.pos)) ++ m.procs.map fun x=>(x.name,x.pos))=none:=by
         rw [← HON.out,List.drop_eq_nil_of_le (by omega)]; rfl
        rw [HRS.out,behindL,h0]; rfl)
       obtain ⟨wQ,hwQ⟩ : ∃ x,x=wr:=⟨_,rfl⟩
       subst hwQ
       have m3:=(HMB.out.kept HC.out (by simp)).cell 3 _ rfl
       have HCP:=Lib.hid HC.out
       clear HON HC HH
       go_wp2_with fail
       clear m3 hk hlt
       go_loopw [17,18,19,21,22,106] (fun _ _ _ _ _ i wr=>∃ k:Nat,i = .int .i64 k∧k≤m.procs.length∧Chg [] w0 wr∧Check.procsL m seen (m.procs.drop k)=Check.procsL m seen m.procs) (fun _ _ _ _ _ i _=>m.procs.length - (intOf i).toNat)
       case atStart=>exact ⟨0,rfl,Nat.zero_le _,HCP.out,rfl⟩
       case round=>
        obtain ⟨k,rfl,hk,hc,hon⟩:=hrel
        have HC:=Lib.hid hc; have HON:=Lib.hid hon
        clear hc hon
        by_cases hlt : k < m.procs.length
        ·obtain ⟨x,hx⟩ : ∃ x,m.procs[k]?=some x:=⟨m.procs[k],List.getElem?_eq_getElem hlt⟩
         obtain ⟨cs1,d,cs',hpe,hl1,_,_,_,rfl,⟨p1,q1,rfl,hq1,hr1⟩,⟨p2,q2,rfl,hq2,hr2⟩,⟨p3,q3,bs3,rfl,hq3,hr3,hs3⟩⟩:=prsAt_at HPS.out hx
         have hrw:=HPR.out.kept HC.out (by simp)
         rw [hpe] at hrw
         obtain ⟨b,o,rfl,d0,d1,d2,d3,d4,d5⟩:=cells6S (cs':=cs') hrw hl1
         clear hrw hpe
         have HR1:=Lib.hid hr1; have HR2:=Lib.hid hr2; have HR3:=Lib.hid hr3; have HS3:=Lib.hid hs3
         clear hl1 hr1 hr2 hr3 hs3
         have hz:=Blk.new wr #[str [],.int .i64 0,.bool false,nils,nils,nils] 87
         obtain ⟨wA,hwA⟩ : ∃ x,wr.alloc (.cells #[str [],.int .i64 0,.bool false,nils,nils,nils] 87)=x:=⟨_,rfl⟩
         rw [hwA] at hz
         have hcA:Chg [] wr wA:=by rw [← hwA]; exact (Chg.refl _ _).alloc _
         obtain ⟨wF,hwF,hcF,hbF⟩:=set6S (str x.name) (.int .i64 x.pos) (.bool x.seen) (.slice p1 x.params.length q1) (.slice p2 x.vars.length q2) (.slice p3 x.body.len q3) hz
         have hcw:Chg [] wr wF:=hcA.trans hcF (fun x hx=>.inr (by simp at hx; omega))
         have g0:=hcA.cellSome d0 (by simp); have g1:=hcA.cellSome d1 (by simp); have g2:=hcA.cellSome d2 (by simp); have g3:=hcA.cellSome d3 (by simp); have g4:=hcA.cellSome d4 (by simp); have g5:=hcA.cellSome d5 (by simp)
         have z0:=hz.cell 0 _ rfl; have z1:=hz.cell 1 _ rfl; have z2:=hz.cell 2 _ rfl; have z3:=hz.cell 3 _ rfl; have z4:=hz.cell 4 _ rfl; have z5:=hz.cell 5 _ rfl
         have y0:=hz.frozen 0; have y1:=hz.frozen 1; have y2:=hz.frozen 2; have y3:=hz.frozen 3; have y4:=hz.frozen 4; have y5:=hz.frozen 5
         have e0:=hbF.cell 0 _ rfl; have e1:=hbF.cell 1 _ rfl
         have HCF:=Lib.hid (HC.out.then hcw); have HBF:=Lib.hid hbF
         have HPN:=Lib.hid (show (Check.procL m seen x).or (Check.procsL m seen (m.procs.drop (k + 1)))=Check.procsL m seen m.procs by
          rw [← HON.out,drop_cons hx]; rfl)
         have hxm : x∈m.procs:=List.mem_of_getElem? hx
         have HPW:=Lib.hid (And.intro (HWM.out.procs x hxm) (bodyC_le hxm))
         obtain ⟨hxp,hxv⟩:=HM.out.params x hxm
         clear hx hxm hz hcA hcF hbF hcw
         go_upto_region 34 with fail
         clear hwA hwF d0 d1 d2 d3 d4 d5 g0 g1 g2 g3 g4 g5 z0 z1 z2 z3 z4 z5 y0 y1 y2 y3 y4 y5 e0 e1
         obtain ⟨wR,hwR⟩ : ∃ x,x=wr:=⟨_,rfl⟩
         subst hwR
         obtain ⟨wD,hwD⟩ : ∃ x,x=wF.drew:=⟨_,rfl⟩
         have HCD:=Lib.hid (show Chg [] w0 wD by rw [hwD]; exact HCF.out.drew)
         have HBD:=Lib.hid (show Blk wD wR.heap.size #[str x.name,.int .i64 x.pos,.bool x.seen,.slice p1 x.params.length q1,.slice p2 x.vars.length q2,.slice p3 x.body.len q3] 87 by rw [hwD]; exact HBF.out)
         have b3:=HBD.out.cell 3 _ rfl; have b4:=HBD.out.cell 4 _ rfl
         obtain ⟨wK,hwK⟩ : ∃ y,wD.alloc (.cells #[] 9)=y:=⟨_,rfl⟩
         have hcK:Chg [] wD wK:=by rw [← hwK]; exact (Chg.refl _ _).alloc _
         have HOW:=Lib.hid (show wK.ownsRow 0 9 1 (.slice (some ⟨wD.heap.size,0,none⟩) 0 0) 0 [] by rw [← hwK]; exact ⟨rfl,.inr ⟨wD.heap.size,0,#[],rfl,Nat.zero_le _,heap_alloc_new wD _,Nat.le_refl _,by decide,rfl,rfl⟩⟩)
         have HDK:=Lib.hid hcK
         have b3k:=hcK.cellSome b3 (by simp); have b4k:=hcK.cellSome b4 (by simp)
         have HA1:=Lib.hid (show At wK p1 (x.params.map str) from (HR1.out.kept (HCD.out.then hcK) (by simp)).at_)
         have HLR:=Lib.hid (show wR.heap.size < wD.heap.size from HBD.out.lt)
         have HLT:=Lib.hid HCD.out.size
         clear hcK
         refine wp_region_C [] rfl (by kernel_rfl) ?_
         rw [← hwD]
         clear hwD
         have hS:Chg [] wD wD:=Chg.refl _ _
         repeat ((with_reducible refine gX ?_); (first | refine wpX_nil ?_ | refine sK ?_ | refine sM fun _ _=>?_ | refine sL fun _ _=>?_ | refine sE fun _ _=>?_); go_wp2_with fail)
         refine And.intro HDK.out ?_
         have hS1:=HDK.out
         repeat ((with_reducible refine gX ?_); (first | refine wpX_nil ?_ | refine sK ?_ | refine sM fun _ _=>?_ | refine sL fun _ _=>?_ | refine sE fun _ _=>?_); go_wp2_with fail)
         refine wpX_append_any _ _ 25 rfl rfl rfl 9 (.string ⟨#[]⟩) 1 16 infoStrC Tryz.underlying25 rfl (by decide) (.slice (some ⟨wD.heap.size,0,none⟩) 0 0) 0 [] rfl HOW.out p1 x.params.length q1 (x.params.map str) rfl (by simp) HA1.out (strs_one x.params) (by omega) (by unfold maxLen; omega) ?_
         intro v2 w2 ho2 hc2 hm2
         have hS2:Chg [] wD w2:=HDK.out.trans hc2 (fun x hx=>.inr (by simp [blk] at hx; omega))
         have HO2:=Lib.hid (show w2.ownsRow 0 9 1 v2 x.params.length (x.params.map str) by simpa using ho2)
         have HF2:=Lib.hid (show From wD.heap.size v2 from fun g hg=>by
          rcases hm2 g hg with h | h
          ·simp [blk] at h; omega
          ·have:=HDK.out.size; omega)
         have HA2:=Lib.hid (show At w2 p2 (x.vars.map str) from (HR2.out.kept (HCD.out.then hS2) (by simp)).at_)
         have HS2:=Lib.hid hS2
         have b3w:=hS2.cellSome b3 (by simp); have b4w:=hS2.cellSome b4 (by simp)
         clear ho2 hc2 hm2 b3k b4k hwK
         refine And.intro HS2.out ?_
         repeat ((with_reducible refine gX ?_); (first | refine wpX_nil ?_ | refine sK ?_ | refine sM fun _ _=>?_ | refine sL fun _ _=>?_ | refine sE fun _ _=>?_); go_wp2_with fail)
         refine wpX_append_any _ _ 25 rfl rfl rfl 9 (.string ⟨#[]⟩) 1 16 infoStrC Tryz.underlying25 rfl (by decide) v2 x.params.length (x.params.map str) rfl HO2.out p2 x.vars.length q2 (x.vars.map str) rfl (by simp) HA2.out (strs_one x.vars) (by omega) (by unfold maxLen; omega) ?_
         intro v3 w3 ho3 hc3 hm3
         have hS3:Chg [] wD w3:=HS2.out.trans hc3 (fun x hx=>.inr (HF2.out x hx))
         obtain ⟨L,hL⟩ : ∃ L,L=x.params ++ x.vars:=⟨_,rfl⟩
         have hLl:L.length≤20:=by rw [hL,List.length_append]; omega
         have hnm:NamesAt w3 (New wD w3) L v3:=by
          obtain ⟨a,c,rfl,hac,hrow⟩:=Row.of_owns ho3 (F:=New wD w3) (fun g hg=>⟨by
           rcases hm3 g hg with h | h
           ·exact HF2.out g h
           ·have:=HS2.out.size; omega,owns_lt ho3 g hg⟩)
          refine ⟨a,c,by rw [hL,List.length_append],by rw [hL,List.length_append]; exact hac,?_⟩
          rw [hL,List.map_append]
          exact hrow
         have HLE:=Lib.hid hL
         obtain ⟨la,lc,rfl,hlc,hlr⟩:=hnm
         have HLR3:=Lib.hid hlr; have HSC3:=Lib.hid hS3
         have b3z:=hS3.cellSome b3 (by simp); have b4z:=hS3.cellSome b4 (by simp)
         clear ho3 hc3 hm3 hL hlr
         obtain ⟨wN2,hwN2⟩ : ∃ y,w3.alloc (.map #[] 0)=y:=⟨_,rfl⟩
         have hcM:Chg [] w3 wN2:=by rw [← hwN2]; exact (Chg.refl _ _).alloc _
         have HAD2:=Lib.hid (show CntIs wN2 w3.heap.size [] by rw [← hwN2]; exact CntIs.made w3)
         have HCM:=Lib.hid ((HCD.out.then HSC3.out).then hcM)
         have HLM2:=Lib.hid (HLR3.out.kept hcM (by simp))
         have HBP:=Lib.hid ((HBD.out.kept HSC3.out (by simp)).kept hcM (by simp))
         have HSZ:=Lib.hid (And.intro HSC3.out.size HLT.out); have HSZ3:=Lib.hid hcM.size
         clear hcM
         refine And.intro HSC3.out ?_
         repeat ((with_reducible refine gX ?_); (first | refine wpX_nil ?_ | refine sK ?_ | refine sM fun _ _=>?_ | refine sL fun _ _=>?_ | refine sE fun _ _=>?_); go_wp2_with fail)
         clear hS hS1 hS2 hS3 b3 b4 b3w b4w b3z b4z
         go_wp2_with fail
         clear hwN2
         go_loopw [21,120] (fun _ i wr=>∃ (j:Nat) (had:List (List UInt8)),i = .int .i64 j∧j≤L.length∧Chg [w3.heap.size] wN2 wr∧CntIs wr w3.heap.size had∧onceL had ((L.drop j).map fun n=>(n,x.pos))=onceL [] (L.map fun n=>(n,x.pos))) (fun _ i _=>L.length - (intOf i).toNat)
         case atStart=>exact ⟨0,[],rfl,Nat.zero_le _,Chg.refl _ _,HAD2.out,rfl⟩
         case round=>
          obtain ⟨j,had,rfl,hj,hc,hhad,hon⟩:=hrel
          have hsz:=HSZ.out
          have HC5:=Lib.hid (show Chg [] w0 wr from HCM.out.trans hc (fun x hx=>.inr (by simp at hx; omega)))
          have HH:=Lib.hid hhad; have HON5:=Lib.hid hon; have HC:=Lib.hid hc
          have HBQ:=Lib.hid (HBP.out.kept hc (by have:=HLR.out; simp; omega))
          clear hc hhad hon
          by_cases hlj : j < L.length
          ·obtain ⟨n,hn⟩ : ∃ n,L[j]?=some n:=⟨L[j],List.getElem?_eq_getElem hlj⟩
           obtain ⟨b8,o8,rfl,d0⟩:=names_cell (HLM2.out.kept HC.out (fun y hy hn=>by simp at hy; have:=hn.2; omega)) hn
           have HOS:=Lib.hid (show onceL had ((n,x.pos) :: (L.drop (j + 1)).map fun n=>(n,x.pos))=onceL [] (L.map fun n=>(n,x.pos)) by
            rw [← HON5.out,drop_cons hn]; rfl)
           clear hn hsz
           by_cases hgi : n∈had
           ·obtain ⟨hl0,wU,hmu,hl1',hcU⟩:=cnt_hit HH.out n hgi
            have HCU:=Lib.hid (show Chg [] w0 wU from HC5.out.trans hcU.out (fun x hx=>.inr (by have:=HSZ.out; simp at hx; omega)))
            have hbu:=HBQ.out.kept hcU.out (by have:=HLR.out; have:=HSZ.out; simp; omega)
            have u1:=hbu.cell 1 _ rfl
            have HT:=Lib.hid (show tgt = .at_ 9 x.pos by
             have h1 : onceL [] ((x.params ++ x.vars).map fun n=>(n,x.pos))=some (9,x.pos):=by
              rw [← HLE.out,← HOS.out,onceL,if_pos hgi]
             rw [HRS.out,← HPN.out,Check.procL,h1]; rfl)
            clear hgi hbu hcU
            obtain ⟨wZ,hwZ,hcZ,hbZ⟩:=set2F (num 9) (num x.pos) (HEB.out.kept HCU.out (by simp))
            have y0:=(HEB.out.kept HCU.out (by simp)).cell 0 _ rfl; have y1:=(HEB.out.kept HCU.out (by simp)).cell 1 _ rfl; have z0:=(HEB.out.kept HCU.out (by simp)).frozen 0; have z1:=(HEB.out.kept HCU.out (by simp)).frozen 1
            have v0:=hbZ.cell 0 _ rfl; have v1:=hbZ.cell 1 _ rfl
            have HCZ:=Lib.hid (show Chg [] w wZ from (HCW.out.then HCU.out).trans hcZ (fun x hx=>.inr (by have:=HS.out; simp at hx; omega)))
            clear hcZ hbZ
            go_wp2_with fail
            refine bodyPost_ret (v:=.agg #[num 9,num x.pos]) (by simp [results,Tryz.results15,go_sem,v0,v1]) rfl ⟨by rw [HT.out]; rfl,HCZ.out⟩
           ·obtain ⟨hl0,wU,hmu,hl1',hnU,hcU⟩:=cnt_miss HH.out n hgi
            have HCU:=Lib.hid (show Chg [w3.heap.size] wN2 wU from HC.out.then hcU.out)
            have HNX:=Lib.hid (show onceL (n :: had) ((L.drop (j + 1)).map fun n=>(n,x.pos))=onceL [] (L.map fun n=>(n,x.pos)) by
             rw [← HOS.out]
             conv=>rhs; rw [onceL,if_neg hgi])
            clear hgi
            go_wp2_with fail
            exact ⟨⟨j + 1,n :: had,by go_num,by omega,HCU.out,hnU.out,HNX.out⟩,by simp [intOf]; omega⟩
          ·have h1 : onceL [] (L.map fun n=>(n,x.pos))=none:=by
            rw [← HON5.out,List.drop_eq_nil_of_le (by omega)]; rfl
           have HSZ2:=Lib.hid (show w3.heap.size≤wr.heap.size from Nat.le_trans HSZ3.out HC.out.size)
           obtain ⟨cv',hcv⟩ : ∃ c:Env,c=⟨m.imports,seen,L,m.vars,m.procs⟩:=⟨_,rfl⟩
           have HPL:=Lib.hid (show Check.procL m seen x=Check.bodyL cv' x.body by rw [Check.procL,← HLE.out,h1,hcv]; rfl)
           have hev:REnv wr (fun y=>F y∨(w0.heap.size≤y∧y < w3.heap.size)) cv' (.agg #[str m.name,.slice ai m.imports.length ci,.slice av m.vars.length cv,.slice (some ⟨b,o,none⟩) m.procs.length cp,.slice ab m.body.len cb]) (.slice la L.length lc) (.map ov):=by
            rw [hcv]
            exact ⟨HM.out.imports,by show L.length≤1000; omega,HM.out.vars,HM.out.procs,m.name,ai,ci,av,cv,some ⟨b,o,none⟩,cp,ab,m.body.len,cb,la,lc,ov,rfl,rfl,rfl,
             ⟨ai,ci,rfl,hi1,(HIR.out.kept HC5.out (by simp)).mono (fun y hy=>.inl hy)⟩,⟨av,cv,rfl,hv1,(HVR.out.kept HC5.out (by simp)).mono (fun y hy=>.inl hy)⟩,procsL_of (ProcsAt.mono (fun y hy=>.inl hy) ⟨some ⟨b,o,none⟩,cp,pcs,rfl,hp1,HPR.out.kept HC5.out (by simp),HPS.out.kept HC5.out (by simp)⟩),⟨la,lc,rfl,hlc,(HLM2.out.kept HC.out (fun y hy hn=>by simp at hy; have:=hn.2; omega)).mono (fun y hy=>.inr ⟨by have:=hy.1; have:=HLT.out; omega,hy.2⟩)⟩,(HSN.out.kept HC5.out (by simp)).mono (fun y hy=>.inl hy)⟩
           have HBC:=Lib.hid (rjudgeAll_any cv' _ _ _ _ B x.body _ HPW.out.1.body (by have:=HPW.out.2; have:=HMK.out; omega) (.slice p3 x.body.len q3) wr hev (HRL.out.kept HC5.out (by simp)) (by have:=HBW.out; have:=HS.out; have:=HC5.out.size; omega) (fun y hy=>by have:=HC5.out.size; have:=HS.out; have:=HSZ2.out; exact hy.elim (fun h=>by have:=HFB.out y h; omega) (fun h=>by omega)) (SlAt.mono (fun y hy=>.inl hy) ⟨p3,q3,bs3,rfl,hq3,HR3.out.kept HC5.out (by simp),HS3.out.kept HC5.out (by simp)⟩))
           have q5:=HBQ.out.cell 5 _ rfl
           obtain ⟨mm0,mm1,mm2,mm3,mm4⟩:=(HMB.out.kept HC5.out (by simp)).five
           clear h1 hev hcv
           obtain ⟨tb,htb⟩ : ∃ t,t=Check.bodyL cv' x.body:=⟨_,rfl⟩
           rw [← htb] at HBC HPL
           have HTB:=Lib.hid htb
           clear htb hsz
           cases tb with
           | none=>
            have HNX:=Lib.hid (show Check.procsL m seen (m.procs.drop (k + 1))=Check.procsL m seen m.procs by
             rw [← HPN.out,HPL.out]; rfl)
            simp only [faultV,badE,badP] at HBC
            go_wp2_with fail
            refine HBC.out.mono ?_
            rintro _ w5 ⟨rfl,hc5⟩
            have HC6:=Lib.hid (HC5.out.then hc5)
            clear hc5 q5 mm0 mm1 mm2 mm3 mm4
            obtain ⟨wX,hwX⟩ : ∃ y,w5.alloc (.cells #[num 0,num 0] 34)=y:=⟨_,rfl⟩
            have hbX:=Blk.new w5 #[num 0,num 0] 34
            rw [hwX] at hbX
            have hcX:Chg [] w5 wX:=by rw [← hwX]; exact (Chg.refl _ _).alloc _
            obtain ⟨wY,hwY,hcY,hbY⟩:=set2F (num 0) (num (-1)) hbX
            have x0:=hbX.cell 0 _ rfl; have x1:=hbX.cell 1 _ rfl; have f0:=hbX.frozen 0; have f1:=hbX.frozen 1
            have r0:=hbY.cell 0 _ rfl; have r1:=hbY.cell 1 _ rfl
            have HC7:=Lib.hid (HC6.out.then (hcX.trans hcY (fun x hx=>.inr (by simp at hx; omega))))
            have hRL7:=HRL.out.kept HC7.out (by simp)
            have g0:=hRL7.fine0; have g1:=hRL7.fine1
            clear hbX hcX hcY hbY hRL7
            go_wp2_with fail
            exact ⟨⟨k + 1,by go_num,by omega,HC7.out,HNX.out⟩,by simp [intOf]; omega⟩
           | some y=>
            obtain ⟨en,q⟩:=y
            have hn1 : ((en:Int) == 0)=false:=by
             have:=bodyL_nz cv' x.body (en,q) HTB.out.symm
             simp; simpa using this
            have HT:=Lib.hid (show tgt = .at_ en q by rw [HRS.out,← HPN.out,HPL.out]; rfl)
            simp only [faultV,badE,badP] at HBC
            go_wp2_with fail
            refine HBC.out.mono ?_
            rintro _ w5 ⟨rfl,hc5⟩
            have HC6:=Lib.hid (HC5.out.then hc5)
            clear hc5 q5 mm0 mm1 mm2 mm3 mm4
            obtain ⟨wX,hwX⟩ : ∃ y,w5.alloc (.cells #[num 0,num 0] 34)=y:=⟨_,rfl⟩
            have hbX:=Blk.new w5 #[num 0,num 0] 34
            rw [hwX] at hbX
            have hcX:Chg [] w5 wX:=by rw [← hwX]; exact (Chg.refl _ _).alloc _
            obtain ⟨wY,hwY,hcY,hbY⟩:=set2F (num en) (num q) hbX
            have x0:=hbX.cell 0 _ rfl; have x1:=hbX.cell 1 _ rfl; have f0:=hbX.frozen 0; have f1:=hbX.frozen 1
            have r0:=hbY.cell 0 _ rfl; have r1:=hbY.cell 1 _ rfl
            have HC7:=Lib.hid (HC6.out.then (hcX.trans hcY (fun x hx=>.inr (by simp at hx; omega))))
            have hRL7:=HRL.out.kept HC7.out (by simp)
            have g0:=hRL7.fine0; have g1:=hRL7.fine1
            clear hbX hcX hcY hbY hRL7
            obtain ⟨wZ,hwZ,hcZ,hbZ⟩:=set2F (num en) (num q) (HEB.out.kept HC7.out (by simp))
            have y0:=(HEB.out.kept HC7.out (by simp)).cell 0 _ rfl; have y1:=(HEB.out.kept HC7.out (by simp)).cell 1 _ rfl; have z0:=(HEB.out.kept HC7.out (by simp)).frozen 0; have z1:=(HEB.out.kept HC7.out (by simp)).frozen 1
            have v0:=hbZ.cell 0 _ rfl; have v1:=hbZ.cell 1 _ rfl
            have HCZ:=Lib.hid (show Chg [] w wZ from (HCW.out.then HC7.out).trans hcZ (fun x hx=>.inr (by have:=HS.out; simp at hx; omega)))
            clear hcZ hbZ
            go_wp2_with fail
            refine bodyPost_ret (v:=.agg #[num en,num q]) (by simp [results,Tryz.results15,go_sem,v0,v1]) rfl ⟨by rw [HT.out]; rfl,HCZ.out⟩
        ·have HRT:=Lib.hid (show tgt = .of (Check.bodyL ⟨m.imports,seen,[],m.vars,m.procs⟩ m.body) by
          have h0:Check.procsL m seen m.procs=none:=by rw [← HON.out,List.drop_eq_nil_of_le (by omega)]; rfl
          rw [HRS.out,h0]; rfl)
         have HMD:=Lib.hid (HMB.out.kept HC.out (by simp))
         obtain ⟨mm0,mm1,mm2,mm3,mm4⟩:=HMD.out.five
         obtain ⟨cv',hcv⟩ : ∃ c:Env,c=⟨m.imports,seen,[],m.vars,m.procs⟩:=⟨_,rfl⟩
         have hev:REnv wr F cv' (.agg #[str m.name,.slice ai m.imports.length ci,.slice av m.vars.length cv,.slice ap m.procs.length cp,.slice ab m.body.len cb]) nils (.map ov):=by
          rw [hcv]
          exact ⟨HM.out.imports,by show ([] : List (List UInt8)).length≤1000; simp,HM.out.vars,HM.out.procs,m.name,ai,ci,av,cv,ap,cp,ab,m.body.len,cb,none,0,ov,rfl,rfl,rfl,
           ⟨ai,ci,rfl,hi1,HIR.out.kept HC.out (by simp)⟩,⟨av,cv,rfl,hv1,HVR.out.kept HC.out (by simp)⟩,procsL_of ⟨ap,cp,pcs,rfl,hp1,HPR.out.kept HC.out (by simp),HPS.out.kept HC.out (by simp)⟩,NamesAt.nil,HSN.out.kept HC.out (by simp)⟩
         have HBC:=Lib.hid (rjudgeAll_any cv' _ _ _ _ B m.body _ HWM.out.body (by have:=mbodyC_le m; have:=HMK.out; omega) (.slice ab m.body.len cb) wr hev (HRL.out.kept HC.out (by simp)) (by have:=HBW.out; have:=HS.out; have:=HC.out.size; omega) (fun y hy=>by have:=HC.out.size; have:=HS.out; have:=HFB.out y hy; omega) (HSB.out.kept HC.out (by simp)))
         obtain ⟨tb,htb⟩ : ∃ t,t=Check.bodyL cv' m.body:=⟨_,rfl⟩
         have HT:=Lib.hid (show tgt = .of tb by rw [htb,hcv]; exact HRT.out)
         rw [← htb] at HBC
         clear htb hev hcv HON
         go_wp2_with fail
         refine HBC.out.mono ?_
         rintro _ w5 ⟨rfl,hc5⟩
         have HC6:=Lib.hid (HC.out.then hc5)
         clear hc5 mm0 mm1 mm2 mm3 mm4
         obtain ⟨wZ,hwZ,hcZ,hbZ⟩:=set2F (num (badE tb)) (num (badP tb)) (HEB.out.kept HC6.out (by simp))
         have y0:=(HEB.out.kept HC6.out (by simp)).cell 0 _ rfl; have y1:=(HEB.out.kept HC6.out (by simp)).cell 1 _ rfl; have z0:=(HEB.out.kept HC6.out (by simp)).frozen 0; have z1:=(HEB.out.kept HC6.out (by simp)).frozen 1
         have v0:=hbZ.cell 0 _ rfl; have v1:=hbZ.cell 1 _ rfl
         have HCZ:=Lib.hid (show Chg [] w wZ from (HCW.out.then HC6.out).trans hcZ (fun x hx=>.inr (by have:=HS.out; simp at hx; omega)))
         clear hcZ hbZ
         go_wp2_with fail
         refine bodyPost_ret (v:=.agg #[num (badE tb),num (badP tb)]) (by simp [results,Tryz.results15,go_sem,v0,v1]) rfl ⟨by rw [HT.out,outV_of],HCZ.out⟩
end Go.Proofs.YtojkkgghndeimaaGreatDoor
