/- Some texts in one. -/
import Derived.Test.YtechofppmnnomaaGreatDoorG3
import Derived.Test.YtechofppmnnomaaGreatDoorG10
import Derived.Test.YtechofppmnnomaaGreatDoorG14
import Derived.Test.YtechofppmnnomaaGreatDoorG17
import Derived.Test.YtechofppmnnomaaGreatDoorG20
import Derived.Test.YtechofppmnnomaaGreatDoorG21
import Derived.Test.YtechofppmnnomaaGreatDoorG25
import Derived.Test.YtechofppmnnomaaGreatDoorG26
namespace Go.Mq.Run
open Go Go.RowKit Go.Mq Go.Mq.Tree
theorem procsAt_own {w:World} {F:Nat→Prop} {l:List Proc} {bb off n c:Nat} (h:ProcsAt w F l (.slice (some ⟨bb,off,none⟩) n c)) (hl : 0 < l.length):F bb:=by
 obtain ⟨a,c',cs,he,_,hr,hp⟩:=h
 cases he
 cases l with
 | nil=>simp at hl
 | cons y r=>
  obtain ⟨c1,c2,rfl,⟨_,_,_,rfl,_⟩,_⟩:=hp
  exact hr.own (by simp) _ rfl
end Go.Mq.Run
namespace Go.Proofs.YtechofppmnnomaaGreatDoor
open Go Go.RowKit Go.Mq Go.Mq.Tree Go.Mq.Sym Go.Mq.Run
open Go.Mq.Check (FewM FewS FewE argsN check Out)
open Go.Mq.Plan (MapIs getM putM run_getM run_getMok run_getNok run_putM)
set_option maxRecDepth 100000
set_option maxHeartbeats 4000000
theorem call_does (g:Nat) {L:Lay} {q:Nm} {m:Mod} {p:Proc} {k:Nat} {args:List Int} {a:Option Addr} {c:Nat} {s:St} {w:World} {b13 b15 b8 b11:Nat} {u:Value} (h:Going w L 0 s nils) (hq:L.M q=some m) (hk : m.procs[k]?=some p)
  (h13:Blk w b13 #[ptr (L.pb q)] 94) (h15:Blk w b15 #[num k] 3) (h8:Blk w b8 #[.slice a args.length c] 41) (h11:Blk w b11 #[u] i64T) (hn11 : b11∉mutL L nils∧¬ L.Fix b11)
  (hrow:Row w (fun b=>b∉mutL L nils) a (ints args)) (hal : args.length≤2000) (ho : (fns L.M g).c 0 q p args s ≠ .stuck) (X:List Nat) (hX : ∀ n s',(fns L.M g).c 0 q p args s = .ok n s'→X=[b11]) :
  Calls Tryz.prog 66 #[ptr L.br,ptr b13,ptr b15,ptr b8,ptr b11] w (Ran w L 0 nils X (fun w' n e=>e = .returned (.tuple #[])∧Blk w' b11 #[num n] i64T) ((fns L.M g).c 0 q p args s)):=by
 obtain ⟨tgt,ht⟩ : ∃ o,o=(fns L.M g).c 0 q p args s:=⟨_,rfl⟩
 obtain ⟨wD,hwD⟩ : ∃ x,x=w.drew:=⟨_,rfl⟩
 have hcD:Chg [] w wD:=by rw [hwD]; exact (Chg.refl [] w).drew
 have hg:=h.kept hcD
 obtain ⟨_,bp,pes,_,_,_,_,hall⟩:=hg.stat
 have hpart:=hall q
 rw [hq] at hpart
 obtain ⟨_,hown,hfew,ai,ci,av,cv,ap,cp,ab,cb,bv,es,h3,h4,_⟩:=hpart
 obtain ⟨vi,vv,vp,vb,hve,_,_,hpr,_⟩:=h4
 cases hve
 obtain ⟨bb,off,cc,vvp,vvv,vvb,hsl,hcc,d0,d1,d2,d3,d4,d5,hn1,hn2,hn3⟩:=procsAt_cells hpr hk
 simp only [Value.slice.injEq,true_and] at hsl
 obtain ⟨rfl,rfl⟩:=hsl
 have hkl:=(List.getElem?_eq_some_iff.1 hk).1
 have hmem : p∈m.procs:=List.mem_of_getElem? hk
 have hpl:=hfew.procs
 obtain ⟨hb1,hb2⟩:=hfew.bodies p hmem
 obtain ⟨hp1,hp2⟩:=hfew.params p hmem
 have hbbF:L.Fix bb:=procsAt_own hpr (by omega)
 have hZ : ∀ x,L.Fix x→x∉b11 :: mutL L nils:=fun x hx hm=>by
  rcases List.mem_cons.1 hm with rfl | hm
  ·exact hn11.2 hx
  ·exact hg.notfix x hm hx
 have hT : ∀ {b:Nat} {cs:Array Value} {t:TypeId},Blk wD b cs t→t≠i64T→t≠160→b∉b11 :: mutL L nils:=fun {b cs t} hb h1 h2 hm=>by
  rcases List.mem_cons.1 hm with rfl | hm
  ·have:=h11.kept hcD (by simp); unfold Blk at this hb; rw [this] at hb; simp at hb; exact h1 hb.2.symm
  ·exact hg.notblk hb h1 h2 hm
 have k13:=h13.kept hcD (by simp); have k15:=h15.kept hcD (by simp); have k8:=h8.kept hcD (by simp); have k11:=h11.kept hcD (by simp)
 have e13:=k13.cell 0 _ rfl; have e15:=k15.cell 0 _ rfl; have e8:=k8.cell 0 _ rfl; have e3:=h3.cell 3 _ rfl
 have Z1:=Lib.hid (Zone.of (X:=b11 :: mutL L nils) (w0:=wD) e13 (hT k13 (by decide) (by decide))); have Z2:=Lib.hid (Zone.of (X:=b11 :: mutL L nils) (w0:=wD) e15 (hT k15 (by decide) (by decide)))
 have Z3:=Lib.hid (Zone.of (X:=b11 :: mutL L nils) (w0:=wD) e8 (hT k8 (by decide) (by decide))); have Z4:=Lib.hid (Zone.of (X:=b11 :: mutL L nils) (w0:=wD) e3 (hT h3 (by decide) (by decide)))
 have Z5:=Lib.hid (Zone.of (X:=b11 :: mutL L nils) (w0:=wD) d0 (hZ bb hbbF))
 have HCC:=Lib.hid (con_c g hg hq hn1 hn2 hn3 hb1 hb2 (by omega) (by omega) (c:=c) (hrow.kept hcD (by simp)) hal ho)
 rw [← ht] at HCC ho hX ⊢
 have HX:=Lib.hid hX
 clear hX
 have HG:=Lib.hid hg; have HCD:=Lib.hid hcD; have HK11:=Lib.hid k11; have HN11:=Lib.hid hn11
 clear h hg hq hk h13 h15 h8 h11 hn11 hrow hal hcD hall hown hfew h3 hpr hn1 hn2 hn3 hmem hpl hb1 hb2 hp1 hp2 hbbF hZ hT k13 k15 k8 k11 ht
 go_enter Tryz.func66,Tryz.ntmps66
 go_wp2_with fail
 refine wp_region_Q isEffL (b11 :: mutL L nils) rfl (by kernel_rfl) ?_
 rw [← hwD]
 clear hwD
 have hS:Chg (b11 :: mutL L nils) wD wD:=Chg.refl _ _
 repeat ((with_reducible show wpQ _ _ _ _ _ _ _ _ _);(first | refine wpQ_nil ?_ | refine wpQ_skip rfl ?_ | refine wpQ_mv rfl rfl (by kernel_rfl) (fun _ _=>?_) | refine wpQ_ldC rfl rfl rfl (by first | exact Z1.out | exact Z2.out | exact Z3.out | exact Z4.out | exact Z5.out) (by assumption) (fun _ _=>?_));go_wp2_with fail)
 refine wpQ_ef rfl rfl (fun K Q hK hQ=>?_)
 go_wp2_with fail
 refine HCC.out.mono ?_; rintro e w2 ⟨ov2,hm,hc,hres⟩
 have HM2:=Lib.hid hm; have HC2:=Lib.hid hc
 have HC2':=Lib.hid (show Chg (b11 :: mutL L nils) wD w2 from hc.mono (fun x hx=>.inl (List.mem_cons_of_mem _ (by simpa using hx))))
 have HK2:=Lib.hid (HK11.out.kept hc (by simpa using HN11.out.1))
 cases tgt with
 | stuck=>exact absurd rfl ho
 | stop way s2=>
  obtain ⟨⟨older,hol,rfl⟩,d',hg⟩:=hres
  have HG2:=Lib.hid hg
  clear hm hc hg hS
  refine hQ _ _ _ (fun a' ha=>?_)
  refine ⟨ha,?_⟩
  exact Ran.after (Ran.ended HM2.out (by simpa using HC2.out) HG2.out (Chg.refl _ _) ⟨older,hol,rfl⟩) HCD.out
 | ok v s2=>
  obtain ⟨rfl,hg⟩:=hres
  have hXX:=HX.out v s2 rfl
  subst hXX
  have HG2:=Lib.hid hg
  have y0:=HK2.out.cell 0 _ rfl; have f0:=HK2.out.frozen 0
  clear hm hc hg hS
  go_wp2_with fail
  refine ⟨HC2'.out,?_⟩
  have hS:=HC2'.out
  repeat ((with_reducible show wpQ _ _ _ _ _ _ _ _ _);(first | refine wpQ_nil ?_ | refine wpQ_skip rfl ?_ | refine wpQ_mv rfl rfl (by kernel_rfl) (fun _ _=>?_) | refine wpQ_ldC rfl rfl rfl (by first | exact Z1.out | exact Z2.out | exact Z3.out | exact Z4.out | exact Z5.out) (by assumption) (fun _ _=>?_));go_wp2_with fail)
  refine wpQ_ef rfl rfl (fun K Q hK hQ=>?_)
  clear hS
  obtain ⟨w3,hw3⟩ : ∃ x,w2.setCell ⟨b11,0,none⟩ (num v)=x:=⟨_,rfl⟩
  have hc3:Chg [b11] w2 w3:=by rw [← hw3]; exact Chg.set1 _ _ _ _
  have hb3:Blk w3 b11 #[num v] i64T:=by rw [← hw3]; simpa using HK2.out.set 0 (num v)
  have HC3:=Lib.hid hc3; have HB3:=Lib.hid hb3
  clear hc3 hb3
  go_wp2_with fail
  refine ⟨HC2'.out.then (HC3.out.mono (fun x hx=>.inl (by simp at hx; simp [hx]))),?_⟩
  refine wpQ_nil ?_
  go_wp2_with fail
  refine bodyPost_end (results_none rfl _ _ _) rfl ?_
  have hnm:=notmut_moved (L:=L) HM2.out HK11.out.lt HN11.out.1
  have hR:Ran wD L 0 nils [b11] (fun w' n e=>e = .returned (.tuple #[])∧Blk w' b11 #[num n] i64T) (O.ok v s2) (.returned (.tuple #[])) w3:=⟨ov2,HM2.out,(HC2.out.mono (fun x hx=>.inl (by simp at hx; simp [hx]))).then (HC3.out.mono (fun x hx=>.inl (by simp at hx; simp [hx]))),⟨rfl,HB3.out⟩,HG2.out.aside HC3.out (fun x hx=>by simp at hx; subst hx; exact ⟨hnm,HN11.out.2⟩)⟩
  exact hR.after HCD.out
end Go.Proofs.YtechofppmnnomaaGreatDoor
namespace Go.Proofs.YtechofppmnnomaaGreatDoor
open Go Go.RowKit Go.Mq Go.Mq.Tree Go.Mq.Sym Go.Mq.Check Go.Mq.Run
set_option maxRecDepth 100000
set_option maxHeartbeats 2000000
theorem cisp_any (x:Proc) (n:List UInt8) (pos:Int) (a1:Option Addr) (k1:Nat) (a2:Option Addr) (n2 k2:Nat) (a3:Option Addr) (n3 k3:Nat) (b0:Nat) (w:World) (hx : w.cell? ⟨b0,0,none⟩=some (str n)) :
  Calls Tryz.prog 65 #[.agg #[str x.name,.int .i64 pos,.bool x.seen,.slice a1 x.params.length k1,.slice a2 n2 k2,.slice a3 n3 k3],ptr b0] w (fun e w'=>e = .returned (.bool (x.name == n && x.seen))∧Chg [] w w'):=by
 have hx':=((Chg.refl [] w).alloc (.cells #[str x.name,.int .i64 pos,.bool x.seen,.slice a1 x.params.length k1,.slice a2 n2 k2,.slice a3 n3 k3] 72)).cellSome hx (by simp)
 have n0 : b0≠w.heap.size:=by have:=lt_of_cell hx; simp at this; omega
 have z:=Blk.new w #[str x.name,.int .i64 pos,.bool x.seen,.slice a1 x.params.length k1,.slice a2 n2 k2,.slice a3 n3 k3] 72
 have z0:=z.cell 0 _ rfl; have z2:=z.cell 2 _ rfl
 clear hx z
 obtain ⟨sb,hsb⟩ : ∃ b,b=x.seen:=⟨_,rfl⟩
 rw [← hsb] at z2 z0 hx' ⊢
 clear hsb
 cases hq : (x.name == n) <;> cases sb
 all_goals
  go_enter Tryz.func65,Tryz.ntmps65
  go_wp2_with fail
  all_goals go_ret
  all_goals exact ⟨rfl,(Chg.refl _ _).alloc _⟩
theorem cindexp_any (l:List Proc) (hl : l.length≤1000) (n:List UInt8) (b0:Nat) (F:Nat→Prop) (v:Value) (w:World) (h:ProcsL w F l v) (hx : w.cell? ⟨b0,0,none⟩=some (str n)) :
  Calls Tryz.prog 57 #[v,.func (.func 65) #[] #[ptr b0]] w (fun e w'=>At1 l (fun g=>g.name == n && g.seen) e∧Chg [] w w'):=by
 have HPR:=Lib.hid h
 obtain ⟨a,c,cs,rfl,hac,hrow,hps⟩:=h
 have HX:=Lib.hid hx
 clear hrow hx hps
 go_enter Tryz.func57,Tryz.ntmps57
 go_wp2_with fail
 go_loopw [5,8] (fun _ i wr=>∃ k:Nat,i = .int .i64 k∧k≤l.length∧Chg [] w wr ∧ ∀ (i:Nat) (x:Proc),i < k→l[i]?=some x→(x.name == n && x.seen)=false) (fun _ i _=>l.length - (intOf i).toNat)
 case atStart=>exact ⟨0,rfl,Nat.zero_le _,Chg.refl _ _,fun i x hi=>by omega⟩
 case round=>
  obtain ⟨k,rfl,hk,hc,hno⟩:=hrel
  have HNO:=Lib.hid hno; have HC:=Lib.hid hc
  clear hno hc
  by_cases hlt : k < l.length
  ·obtain ⟨s,hs⟩ : ∃ s,l[k]?=some s:=⟨l[k],List.getElem?_eq_getElem hlt⟩
   obtain ⟨bb,off,cc,pos,a1,k1,a2,n2,k2,a3,n3,k3,hv,_,d0,d1,d2,d3,d4,d5⟩:=proc_cells (HPR.out.kept HC.out (by simp)) hs
   simp only [Value.slice.injEq,true_and] at hv
   obtain ⟨rfl,rfl⟩:=hv
   have HS:=Lib.hid hs
   have HI:=Lib.hid (cisp_any s n pos a1 k1 a2 n2 k2 a3 n3 k3 b0 wr (HC.out.cellSome HX.out (by simp)))
   clear hs
   cases hq : (s.name == n && s.seen) with
   | true=>
    rw [hq] at HI
    have HR:=Lib.hid (show l.find? (fun g=>g.name == n && g.seen)=some s from find_at HS.out hq HNO.out)
    clear hq
    go_wp2_with fail
    refine HI.out.mono ?_; rintro _ w2 ⟨rfl,hq⟩
    have HQ:=Lib.hid (HC.out.then hq); clear hq
    go_wp2_with fail
    go_ret
    refine ⟨?_,HQ.out⟩
    rw [At1,HR.out]
    exact ⟨k,HS.out,rfl⟩
   | false=>
    rw [hq] at HI
    have HN:=Lib.hid hq
    clear hq
    go_wp2_with fail
    refine HI.out.mono ?_; rintro _ w2 ⟨rfl,hq⟩
    have HQ:=Lib.hid (HC.out.then hq); clear hq
    go_wp2_with fail
    refine ⟨⟨k + 1,by go_num,by omega,HQ.out,fun i x hi hx=>?_⟩,by simp [intOf]; omega⟩
    by_cases he : i < k
    ·exact HNO.out i x he hx
    ·have : i=k:=by omega
     subst this
     rw [HS.out] at hx
     cases hx
     exact HN.out
  ·have HR:=Lib.hid (show l.find? (fun g=>g.name == n && g.seen)=none from find_no fun i x hx=>HNO.out i x (by have:=(List.getElem?_eq_some_iff.1 hx).1; omega) hx)
   go_wp2_with fail
   go_ret
   exact ⟨by rw [At1,HR.out] <;> rfl,HC.out⟩
end Go.Proofs.YtechofppmnnomaaGreatDoor
namespace Go.Mq.Run
open Go Go.RowKit Go.Mq Go.Mq.Tree Go.Mq.Sym
open Go.Mq.Check (Env Got exprL bodyL procL procsL nameL argsN check Out check_fine onceL_none FewM)
def envOf (M:Ms) (m:Mod) (lo:List Nm):Env:=⟨m.imports,seenOf M,lo,m.vars,m.procs⟩
def Loc (lo:List Nm) (fr:Fr):Prop:=∀ n,n∈lo↔(getF fr n).isSome
theorem getF_put (fr:Fr) (n:Nm) (v:Int) (k:Nm) : getF (putF fr n v) k=if n=k then some v else getF fr k:=by
 induction fr with
 | nil=>simp [putF,getF]
 | cons p r ih=>
  obtain ⟨a,u⟩:=p
  rw [putF]
  split
  ·next h=>subst h; rw [getF,getF]; split <;> simp_all
  ·next h=>
   rw [getF,getF,ih]
   split
   ·next h2=>subst h2; rw [if_neg (fun e=>h e.symm)]
   ·rfl
theorem Loc.put {lo:List Nm} {fr:Fr} (h:Loc lo fr) {n:Nm} (hn : (getF fr n).isSome) (v:Int):Loc lo (putF fr n v):=fun k=>by
 rw [h k,getF_put]
 split
 ·next e=>subst e; simp [hn]
 ·rfl
def Shape (M:Ms) (vs:Vs):Prop:=∀ q m,M q=some m → ∀ g∈m.vars,∃ l,vs q g.name=some l∧l.length=sizeG g
structure OkM (M:Ms):Prop where
 good : ∀ q m,M q=some m→GoodM m∧m.name=q
 fine : ∀ q m,M q=some m→check m (seenOf M) = .fine
def Mono {α:Type} (f:Nat→O α):Prop:=∀ g g',g≤g'→Le (f g) (f g')
def Fin {α:Type} (f:Nat→O α):Prop:=∃ g,f g ≠ .stuck
theorem Le.of_ne {α:Type} {a b:O α} (h:Le a b) (k : a ≠ .stuck) : a=b:=h.resolve_left k
theorem Fin.bind {α β:Type} {f:Nat→O α} {k:Nat→α→St→O β} (hf:Mono f) (hk : ∀ a s,Mono (fun g=>k g a s)) (h:Fin f) (h2 : ∀ g a s,f g = .ok a s→Fin (fun g=>k g a s)):Fin (fun g=>(f g).bind (k g)):=by
 obtain ⟨g,hg⟩:=h
 cases ho : f g with
 | stuck=>exact absurd ho hg
 | stop w s=>exact ⟨g,by simp [ho,O.bind]⟩
 | ok a s=>
  obtain ⟨g2,hg2⟩:=h2 g a s ho
  refine ⟨max g g2,?_⟩
  have e1:=(hf g (max g g2) (Nat.le_max_left _ _)).of_ne hg
  have e2:=(hk a s g2 (max g g2) (Nat.le_max_right _ _)).of_ne hg2
  show (f (max g g2)).bind _≠_
  rw [← e1,ho]
  show k (max g g2) a s≠_
  simp only at e2
  rw [← e2]; exact hg2
theorem Fin.const {α:Type} {o:O α} (h : o ≠ .stuck):Fin (fun _=>o):=⟨0,h⟩
theorem Mono.const {α:Type} (o:O α):Mono (fun _=>o):=fun _ _ _=>.refl _
theorem Mono.bind {α β:Type} {f:Nat→O α} {k:Nat→α→St→O β} (hf:Mono f) (hk : ∀ a s,Mono (fun g=>k g a s)):Mono fun g=>(f g).bind (k g):=fun g g' h=>(hf g g' h).bind fun a s=>hk a s g g' h
theorem Fin.succ {α:Type} {f h:Nat→O α} (k:Fin f) (e : ∀ g,h (g + 1)=f g):Fin h:=by
 obtain ⟨g,hg⟩:=k
 exact ⟨g + 1,by rw [e]; exact hg⟩
def SameF (fr fr':Fr):Prop:=∀ n,(getF fr' n).isSome=(getF fr n).isSome
theorem SameF.trans {a b c:Fr} (h:SameF a b) (k:SameF b c):SameF a c:=fun n=>(k n).trans (h n)
def KeepF (fr:Fr):O (Fl × Fr)→Prop
 | .ok x _=>SameF fr x.2
 | _=>True
theorem KeepF.bind {α:Type} {fr:Fr} {o:O α} {f : α→St→O (Fl × Fr)} (k : ∀ a s,KeepF fr (f a s)):KeepF fr (o.bind f):=by
 cases o with
 | ok a s=>exact k a s
 | stop w s=>trivial
 | stuck=>trivial
end Go.Mq.Run
namespace Go.Mq.Run
open Go Go.RowKit Go.Mq Go.Mq.Tree Go.Mq.Sym
open Go.Mq.Check (Env Got exprL bodyL procL procsL nameL argsN check Out check_fine onceL_none FewM procsL_none)
structure Safe (M:Ms) (N k:Nat):Prop where
 e : ∀ d q m lo fr x s,M q=some m→30≤d + k→d≤30→s.fuel≤N→Loc lo fr→Shape M s.vs→WF x→x.isX→exprL (envOf M m lo) x=none→Fin fun g=>(fns M g).e d q fr x s
 b : ∀ d q m lo fr x s dd,M q=some m→30≤d + k→d≤30→s.fuel≤N→Loc lo fr→Shape M s.vs→WFS dd x→bodyL (envOf M m lo) x=none→Fin fun g=>(fns M g).b d q fr x s
 l : ∀ d q m lo fr v t s dd,M q=some m→30≤d + k→d≤30→s.fuel≤N→Loc lo fr→Shape M s.vs→WF v→v.isX→exprL (envOf M m lo) v=none→WFS dd t→bodyL (envOf M m lo) t=none→Fin fun g=>(fns M g).l d q fr v t s
section
variable {M:Ms} (hM:OkM M)
include hM
end
end Go.Mq.Run
namespace Go.Mq.Run
open Go Go.RowKit Go.Mq Go.Mq.Tree Go.Mq.Sym
open Go.Mq.Check (Env Got exprL bodyL procL procsL nameL argsN check Out check_fine importsL importsL_some importsL_congr Look)
open Go.Mq.Used (touch useE useO useS useP useM usedL useE_short)
structure SymEq (s s':Sy):Prop where
 proc : 0≤s.args↔0≤s'.args
 args : 0≤s.args→s.args=s'.args
 len : ¬ 0≤s.args→(0 < s.len↔0 < s'.len)
theorem SymEq.rfl (s:Sy):SymEq s s:=⟨Iff.rfl,fun _=>Eq.refl _,fun _=>Iff.rfl⟩
def Follows (a b:Got):Prop:=∀ s,a = .is s → ∃ s',b = .is s'∧SymEq s s'
theorem Follows.rfl (a:Got):Follows a a:=fun s h=>⟨s,h,.rfl s⟩
end Go.Mq.Run
namespace Go.Mq.Run
open Go Go.RowKit Go.Mq Go.Mq.Tree Go.Mq.Sym
open Go.Mq.Check (Env Got exprL bodyL procL procsL nameL argsN check Out check_fine importsL importsL_some importsL_congr Look FewM)
open Go.Mq.Used (usedL usedL_short)
theorem check_imports {m:Mod} {seen seen':List UInt8→Option (List Sy)} (h : ∀ g∈m.imports,seen' g=seen g) : check m seen'=check m seen:=by
 have hb : ∀ lo s,bodyL ⟨m.imports,seen',lo,m.vars,m.procs⟩ s=bodyL ⟨m.imports,seen,lo,m.vars,m.procs⟩ s:=fun lo s=>Go.Mq.Check.bodyL_congr (Go.Mq.Check.find_seen h) s
 have hp : ∀ l,Go.Mq.Check.procsL m seen' l=Go.Mq.Check.procsL m seen l:=fun l=>by
  induction l with
  | nil=>rfl
  | cons x r ih=>rw [Go.Mq.Check.procsL,Go.Mq.Check.procsL,ih,procL,procL,hb]
 unfold check
 rw [importsL_congr _ _ h,hp,hb]
theorem imports_not_own {own:List UInt8} {seen:List UInt8→Option (List Sy)} : ∀ (l had:List (List UInt8)),importsL own seen had l=none→own∉l
 | [],_,_=>by simp
 | x :: r,had,h=>by
  rw [importsL] at h
  split at h
  ·cases h
  ·next h1=>
   split at h
   ·cases h
   ·intro hm
    rcases List.mem_cons.1 hm with e | hm
    ·exact h1 (.inl e.symm)
    ·exact imports_not_own r _ h hm
def Imp (M:Ms) (a b:Nm):Prop:=∃ m,M b=some m∧a∈m.imports
inductive Reach (M:Ms):Nm→Nm→Prop where
 | refl (a:Nm):Reach M a a
 | step {a b c:Nm} : Imp M b a→Reach M b c→Reach M a c
structure Inv (W:Wd):Prop where
 ok:OkM W.M
 shape : ∀ q n,(W.vs q n).map List.length=((W.M q).bind fun m=>startF m.vars n).map List.length
 nodup:W.order.Nodup
 order : ∀ q,q∈W.order↔(W.M q).isSome
 few:W.order.length≤10
 acyc : ∀ q,Acc (Imp W.M) q
theorem Inv.zero:Inv Wd.zero:=⟨⟨fun _ _ h=>(by cases h),fun _ _ h=>(by cases h)⟩,fun _ _=>rfl,List.nodup_nil,fun _=>by simp [Wd.zero],by simp [Wd.zero],fun q=>⟨_,fun a ⟨_,h,_⟩=>by cases h⟩⟩
end Go.Mq.Run
namespace Go.Mq.Run
open Go Go.RowKit Go.Mq Go.Mq.Tree Go.Mq.Sym
open Go.Mq.Check (Env Got exprL bodyL procL procsL nameL argsN check Out check_fine importsL importsL_some importsL_congr Look FewM)
open Go.Mq.Used (usedL usedL_short)
open Classical
def callW (g:Nat) (W:Wd) (q n:Nm) (args:List Int) (fuel:Nat):Option (Wd × Nat × List Int × Int × Out):=match W.M q with
 | none=>some (W,0,[],0,.plain 7)
 | some m=>match m.procs.find? fun p=>p.name == n && p.seen with
  | none=>some (W,0,[],0,.plain 7)
  | some p=>if args.length≠p.params.length then some (W,0,[],0,.plain 2) else
   match (fns W.M g).c 0 q p args ⟨fuel,[],W.vs⟩ with
   | .stuck=>none
   | .ok n s=>some (⟨W.M,s.vs,W.order⟩,1,s.out,n,.fine)
   | .stop way s=>some (⟨W.M,s.vs,W.order⟩,way,s.out,0,.fine)
theorem setM_own (M:Ms) (m:Mod) : setM M m m.name=some m:=if_pos rfl
theorem setM_other (M:Ms) (m:Mod) {q:Nm} (h : q≠m.name) : setM M m q=M q:=if_neg h
theorem seenOf_set (M:Ms) (m:Mod) (q:Nm) : seenOf (setM M m) q=if q=m.name then some (ofM m) else seenOf M q:=by
 unfold seenOf setM
 split <;> rfl
theorem check_own {m:Mod} {seen:Nm→Option (List Sy)} (h : check m seen = .fine) : m.name∉m.imports:=imports_not_own _ _ ((check_fine _ _).1 h).1
theorem OkM.more {M:Ms} (h:OkM M) {m:Mod} (hg:GoodM m) (hn:M m.name=none) (hc : check m (seenOf M) = .fine):OkM (setM M m):=by
 refine ⟨fun q x hx=>?_,fun q x hx=>?_⟩
 ·by_cases e : q=m.name
  ·subst e; rw [setM_own] at hx; cases hx; exact ⟨hg,rfl⟩
  ·rw [setM_other _ _ e] at hx; exact h.good q x hx
 ·by_cases e : q=m.name
  ·subst e
   rw [setM_own] at hx
   cases hx
   rw [check_imports (seen:=seenOf M)]
   ·exact hc
   ·intro g hg'
    rw [seenOf_set,if_neg]
    intro e; subst e; exact check_own hc hg'
  ·rw [setM_other _ _ e] at hx
   have hf:=h.fine q x hx
   rw [check_imports (seen:=seenOf M)]
   ·exact hf
   ·intro g hg'
    rw [seenOf_set,if_neg]
    intro e'
    subst e'
    have:=importsL_some _ _ ((check_fine _ _).1 hf).1 _ hg'
    rw [seenOf,hn] at this
    cases this
end Go.Mq.Run
namespace Go.Mq.Run
open Go Go.RowKit Go.Mq Go.Mq.Tree Go.Mq.Sym
open Go.Mq.Plan (MapIs getM putM run_getM run_getMok run_getNok run_putM)
theorem WAt.still {w w':World} {Own G:Nat→Prop} {bw:Nat} {W:Wd} (h:WAt w Own G bw W) (hc:Chg [] w w'):WAt w' (More Own w w') G bw W:=by
 have:=h.idle (Gm:=fun _=>False) hc (fun _ h=>h.elim)
 simpa using this
end Go.Mq.Run
namespace Go.Proofs.YtechofppmnnomaaGreatDoor
open Go Go.RowKit Go.Mq Go.Mq.Tree Go.Mq.Sym Go.Mq.Run
open Go.Mq.Check (FewM FewS FewE argsN check Out At1)
open Go.Mq.Plan (MapIs getM putM run_getM run_getMok run_getNok run_putM)
set_option maxRecDepth 100000
set_option maxHeartbeats 4000000
def Called (w:World) (Own G:Nat→Prop) (bw:Nat) (r:Wd × Nat × List Int × Int × Out) (e:Ending) (w':World):Prop:=
 ∃ ve vo,e = .returned (.tuple #[ve,num r.2.2.2.1,vo])∧EndV w' w.heap.size r.2.1 r.2.2.1 ve∧ErrV w' r.2.2.2.2 vo∧WAt w' (More Own w w') G bw r.1∧ChgO Own w w'
theorem Called.no {w w':World} {Own G:Nat→Prop} {bw:Nat} {W:Wd} {o:Out} {vo:Value} (h:WAt w Own G bw W) (hc:Chg [] w w') (he:ErrV w' o vo):Called w Own G bw (W,0,[],0,o) (.returned (.tuple #[.agg #[num 0,nils],num 0,vo])) w':=
 ⟨_,_,rfl,⟨nils,rfl,⟨rfl,.inl ⟨rfl,rfl⟩⟩,From.nil _⟩,he,h.still hc,.of hc⟩
theorem Called.done {w wD w9 wF:World} {Own G:Nat→Prop} {bw be bi way:Nat} {W:Wd} {L:Lay} {X:List Nat} {vs:Vs} {out:List Int} {n:Int} {ov:Value} (H:WAt w Own G bw W) (HH:Has w Own G bw W L) (hD:Chg [] w wD) (h9:Home w9 L vs) (hc9:Chg (X ++ L.arrs) wD w9) (hX : ∀ x∈X,x=bi) (hlt : w.heap.size≤be∧w.heap.size≤bi∧be < wD.heap.size∧bi < wD.heap.size)
  (ho : w9.ownsRow 0 i64T 1 ov out.length (ints out)) (hf:From wD.heap.size ov) (hcF:Chg [be,bi] w9 wF):Called w Own G bw (⟨W.M,vs,W.order⟩,way,out,n,.fine) (.returned (.tuple #[.agg #[num way,ov],num n,.nilIface])) wF:=by
 have hlow:=fun x (hx : w.heap.size≤x)=>HH.home.low hx
 have hs:=hD.size; have hs9:=hc9.size; have hsF:=hcF.size
 have hbb : ∀ x∈[be,bi],w.heap.size≤x:=fun x hx=>by simp at hx; rcases hx with rfl | rfl <;> omega
 have hlay:=HH.home.lay w.heap.size (Nat.le_refl _)
 have hZ : ∀ x∈X ++ L.arrs,¬ L.Fix x:=fun x hx=>by
  rcases List.mem_append.1 hx with hx | hx
  ·rw [hX x hx]; exact (hlow bi hlt.2.1).1
  ·exact (hlay.arrs hx).1
 have h10:=(((HH.kept hD (by simp)).went h9 hc9 hZ).keptF hcF (fun x hx=>hlow x (hbb x hx))).mono (Own':=More Own w wF) (fun x hx=>.inl hx)
 refine ⟨_,_,rfl,⟨ov,rfl,owns_kept ho hcF (fun g hg hm=>?_),fun g hg=>?_⟩,rfl,⟨.inl H.own,fun x hx=>?_,fun x hx hx'=>?_,H.good,H.few,.inr ⟨L,h10⟩⟩,L.arrs,?_,HH.arrs⟩
 ·have:=hf g hg; simp at hm; omega
 ·have:=hf g hg; omega
 ·rcases hx with (hx | hx) | hx
  ·have:=H.lt x (.inl hx); omega
  ·exact hx.2
  ·have:=H.lt x (.inr hx); omega
 ·rcases hx with hx | hx
  ·exact H.dis x hx hx'
  ·have:=H.lt x (.inr hx'); omega
 ·refine ((hD.weak (S:=L.arrs)).trans hc9 (fun x hx=>?_)).trans hcF (fun x hx=>.inr (hbb x hx))
  rcases List.mem_append.1 hx with hx | hx
  ·exact .inr (by rw [hX x hx]; exact hlt.2.1)
  ·exact .inl hx
theorem setN {w:World} {be bi:Nat} {u0 u1 u2:Value} (h:Blk w be #[u0,u1] 43) (hi:Blk w bi #[u2] i64T) (n k:Int) (v:Value) : ∃ wE,(((w.setCell ⟨be,0,none⟩ (num n)).setCell ⟨be,1,none⟩ v).setCell ⟨bi,0,none⟩ (num k))=wE∧Blk wE be #[num n,v] 43∧Blk wE bi #[num k] i64T:=by
 have hne : be≠bi:=fun e=>by subst e; unfold Blk at h hi; rw [h] at hi; simp at hi
 refine ⟨_,rfl,((by simpa using (h.set 0 (num n)).set 1 v:Blk ((w.setCell ⟨be,0,none⟩ (num n)).setCell ⟨be,1,none⟩ v) be #[num n,v] _)).kept (Chg.set1 _ bi _ _) (by simpa using hne),?_⟩
 have h2:Blk ((w.setCell ⟨be,0,none⟩ (num n)).setCell ⟨be,1,none⟩ v) bi #[u2] i64T:=(hi.kept (Chg.set1 _ be _ _) (by simpa using hne.symm)).kept (Chg.set1 _ be _ _) (by simpa using hne.symm)
 simpa using h2.set 0 (num k)
theorem wcall_none (g:Nat) {w:World} {Own G:Nat→Prop} {bw:Nat} {W:Wd} {q n:Nm} {args:List Int} {a:Option Addr} {c:Nat} {fuel:Nat} {r:Wd × Nat × List Int × Int × Out} (h:WAt w Own G bw W) (hq:W.M q=none) (hr : callW g W q n args fuel=some r) :
  Calls Tryz.prog 31 #[ptr bw,str q,str n,.slice a args.length c,num fuel] w (Called w Own G bw r):=by
 obtain ⟨pv,oa,oc,hfr⟩:=h.front
 obtain ⟨o,hlk⟩:=front_look hfr q
 rw [hq] at hlk
 obtain ⟨w0,hw0⟩ : ∃ x,w.alloc (.cells #[str n] 9)=x:=⟨_,rfl⟩
 have hb0:Blk w0 w.heap.size #[str n] 9:=by rw [← hw0]; exact Blk.new w _ _
 have hc0:Chg [] w w0:=by rw [← hw0]; exact (Chg.refl _ _).alloc _
 have hs0 : w0.heap.size=w.heap.size + 1:=by rw [← hw0]; simp
 obtain ⟨w1,hw1⟩ : ∃ x,w0.alloc (.cells #[.slice a args.length c] 41)=x:=⟨_,rfl⟩
 have hb1:Blk w1 w0.heap.size #[.slice a args.length c] 41:=by rw [← hw1]; exact Blk.new w0 _ _
 have hc1:Chg [] w0 w1:=by rw [← hw1]; exact (Chg.refl _ _).alloc _
 have hs1 : w1.heap.size=w0.heap.size + 1:=by rw [← hw1]; simp
 obtain ⟨w2,hw2⟩ : ∃ x,w1.alloc (.cells #[num 0,nils] 43)=x:=⟨_,rfl⟩
 have hb2:Blk w2 w1.heap.size #[num 0,nils] 43:=by rw [← hw2]; exact Blk.new w1 _ _
 have hc2:Chg [] w1 w2:=by rw [← hw2]; exact (Chg.refl _ _).alloc _
 have hs2 : w2.heap.size=w1.heap.size + 1:=by rw [← hw2]; simp
 obtain ⟨w3,hw3⟩ : ∃ x,w2.alloc (.cells #[num 0] i64T)=x:=⟨_,rfl⟩
 have hb3:Blk w3 w2.heap.size #[num 0] i64T:=by rw [← hw3]; exact Blk.new w2 _ _
 have hc3:Chg [] w2 w3:=by rw [← hw3]; exact (Chg.refl _ _).alloc _
 have hs3 : w3.heap.size=w2.heap.size + 1:=by rw [← hw3]; simp
 obtain ⟨w4,hw4⟩ : ∃ x,w3.alloc (.cells #[.pointer o] 94)=x:=⟨_,rfl⟩
 have hb4:Blk w4 w3.heap.size #[.pointer o] 94:=by rw [← hw4]; exact Blk.new w3 _ _
 have hc4:Chg [] w3 w4:=by rw [← hw4]; exact (Chg.refl _ _).alloc _
 have hs4 : w4.heap.size=w3.heap.size + 1:=by rw [← hw4]; simp
 obtain ⟨bn,hbn⟩ : ∃ b,b=w.heap.size:=⟨_,rfl⟩
 obtain ⟨ba,hba⟩ : ∃ b,b=w0.heap.size:=⟨_,rfl⟩
 obtain ⟨be,hbe⟩ : ∃ b,b=w1.heap.size:=⟨_,rfl⟩
 obtain ⟨bi,hbi⟩ : ∃ b,b=w2.heap.size:=⟨_,rfl⟩
 obtain ⟨bt,hbt⟩ : ∃ b,b=w3.heap.size:=⟨_,rfl⟩
 have hcw:Chg [] w w3:=hc0.then (hc1.then (hc2.then hc3))
 have hcw4:Chg [] w w4:=hcw.then hc4
 have hn3:=(((hb0.kept hc1 (by simp)).kept hc2 (by simp)).kept hc3 (by simp)).kept hc4 (by simp)
 have ha3:=((hb1.kept hc2 (by simp)).kept hc3 (by simp)).kept hc4 (by simp)
 have he3:=(hb2.kept hc3 (by simp)).kept hc4 (by simp)
 have hi3:=hb3.kept hc4 (by simp)
 have hne : w2.heap.size≠w1.heap.size:=by omega
 have hne' : w1.heap.size≠w2.heap.size:=by omega
 have hwb:=hfr.blk.kept hcw (by simp)
 rw [← hbn] at hn3
 rw [← hba] at ha3
 rw [← hbe] at he3
 rw [← hbi] at hi3
 rw [← hbt] at hb4
 have b0:=hwb.cell 0 _ rfl; have b1:=hwb.cell 1 _ rfl
 have hlk3:=hlk w3 hcw
 have HLT:=Lib.hid (show bn=w.heap.size∧ba=w.heap.size + 1∧be=w.heap.size + 2∧bi=w.heap.size + 3∧bt=w.heap.size + 4∧w4.heap.size=w.heap.size + 5∧bw < w.heap.size by
  have:=h.lt bw (.inl h.own)
  omega)
 have HCE:=Lib.hid (fun (wx:World) (hx:Chg [] w wx)=>(show Chg [] w (((wx.setCell ⟨be,0,none⟩ (num 0)).setCell ⟨be,1,none⟩ nils).setCell ⟨bi,0,none⟩ (num 0)) from hx.trans ((Chg.set1 _ _ _ _).then (Chg.set1 _ _ _ _)) (fun x hx=>.inr (by have:=HLT.out; simp at hx; omega)) |>.trans (Chg.set1 _ _ _ _) (fun x hx=>.inr (by have:=HLT.out; simp at hx; omega))))
 have H:=Lib.hid h; have HR:=Lib.hid hr; have HFR:=Lib.hid hfr; have HCW:=Lib.hid hcw4; have HN:=Lib.hid hn3; have HA:=Lib.hid ha3; have HE:=Lib.hid he3; have HI:=Lib.hid hi3; have HT:=Lib.hid hb4
 have e0:=he3.cell 0 _ rfl; have f0:=he3.frozen 0; have e1:=he3.cell 1 _ rfl; have f1:=he3.frozen 1; have i0:=hi3.cell 0 _ rfl; have g0:=hi3.frozen 0
 have hrr : (W,0,[],0,.plain 7)=r:=by
  rw [callW,hq] at hr; cases hr; rfl
 subst hrr
 obtain ⟨wE,hwE,hbE,hbI⟩:=setN he3 hi3 0 0 nils
 have HEI:=Lib.hid (And.intro hbE hbI)
 clear h hr hfr hb0 hc0 hs0 hb1 hc1 hs1 hb2 hc2 hs2 hb3 hc3 hs3 hc4 hs4 hb4 hcw hcw4 hn3 ha3 he3 hi3 hwb hlk hbE hbI hq
 go_enter Tryz.func31,Tryz.ntmps31
 simp only [hbn,hba,hbe,hbi] at *
 go_wp2_with fail
 have y0:=HEI.out.1.cell 0 _ rfl; have y1:=HEI.out.1.cell 1 _ rfl; have y2:=HEI.out.2.cell 0 _ rfl
 refine bodyPost_ret (v:=.tuple #[.agg #[num 0,nils],num 0,.iface 46 (num 7)]) (by simp [results,Tryz.results31,go_sem,y0,y1,y2]) rfl ?_
 have hc:=HCE.out w4 HCW.out
 rw [hwE] at hc
 exact Called.no H.out hc rfl
theorem wcall_some (g:Nat) {w:World} {Own G:Nat→Prop} {bw:Nat} {W:Wd} {q n:Nm} {args:List Int} {a:Option Addr} {c:Nat} {fuel:Nat} {r:Wd × Nat × List Int × Int × Out} {m:Mod} (h:WAt w Own G bw W) {Ga:Nat→Prop} (hrow:Row w Ga a (ints args)) (hga : ∀ x,Ga x→x < w.heap.size∧¬ Own x) (hal : args.length≤2000) (hfu : fuel≤9223372036854775807) (hq:W.M q=some m) (hr : callW g W q n args fuel=some r) :
  Calls Tryz.prog 31 #[ptr bw,str q,str n,.slice a args.length c,num fuel] w (Called w Own G bw r):=by
 have hmf : ∀ (fn:Fn) (first cap:Array Value) (w:World),(Instr.makeFunc fn first cap).run Tryz.prog w = .ok (.func fn first cap) w:=fun _ _ _ _=>rfl
 obtain ⟨pv,oa,oc,hfr⟩:=h.front
 obtain ⟨bp,L,pes,rfl,hhas,hord⟩ : ∃ bp L pes,pv=some bp∧Has w Own G bw W L∧OrdAt w Own G bw W L bp (.slice oa W.order.length oc) pes:=by
  rcases hfr.at_ with ⟨_,rfl,_⟩ | h
  ·cases hq
  ·exact h
 have hqq:=hord.2.2.2.2.2.2 q
 rw [hq] at hqq
 obtain ⟨hget,hown,bv,⟨_,hbv,_⟩,hpart⟩:=hqq
 have hlk : ∀ w',Chg [] w w'→(Instr.lookup 38 (.map (some bp)) (str q) true).run Tryz.prog w' = .ok (.tuple #[ptr (L.pb q),.bool true]) w':=fun w' hc=>by
  have hl:=run_getMok (P:=Tryz.prog) Tryz.underlying38 Tryz.underlying9 (zero_part w') (hord.2.2.1.kept hc (by simp)) q
  rw [hget] at hl; exact hl
 obtain ⟨w0,hw0⟩ : ∃ x,w.alloc (.cells #[str n] 9)=x:=⟨_,rfl⟩
 have hb0:Blk w0 w.heap.size #[str n] 9:=by rw [← hw0]; exact Blk.new w _ _
 have hc0:Chg [] w w0:=by rw [← hw0]; exact (Chg.refl _ _).alloc _
 have hs0 : w0.heap.size=w.heap.size + 1:=by rw [← hw0]; simp
 obtain ⟨w1,hw1⟩ : ∃ x,w0.alloc (.cells #[.slice a args.length c] 41)=x:=⟨_,rfl⟩
 have hb1:Blk w1 w0.heap.size #[.slice a args.length c] 41:=by rw [← hw1]; exact Blk.new w0 _ _
 have hc1:Chg [] w0 w1:=by rw [← hw1]; exact (Chg.refl _ _).alloc _
 have hs1 : w1.heap.size=w0.heap.size + 1:=by rw [← hw1]; simp
 obtain ⟨w2,hw2⟩ : ∃ x,w1.alloc (.cells #[num 0,nils] 43)=x:=⟨_,rfl⟩
 have hb2:Blk w2 w1.heap.size #[num 0,nils] 43:=by rw [← hw2]; exact Blk.new w1 _ _
 have hc2:Chg [] w1 w2:=by rw [← hw2]; exact (Chg.refl _ _).alloc _
 have hs2 : w2.heap.size=w1.heap.size + 1:=by rw [← hw2]; simp
 obtain ⟨w3,hw3⟩ : ∃ x,w2.alloc (.cells #[num 0] i64T)=x:=⟨_,rfl⟩
 have hb3:Blk w3 w2.heap.size #[num 0] i64T:=by rw [← hw3]; exact Blk.new w2 _ _
 have hc3:Chg [] w2 w3:=by rw [← hw3]; exact (Chg.refl _ _).alloc _
 have hs3 : w3.heap.size=w2.heap.size + 1:=by rw [← hw3]; simp
 obtain ⟨w4,hw4⟩ : ∃ x,w3.alloc (.cells #[ptr (L.pb q)] 94)=x:=⟨_,rfl⟩
 have hb4:Blk w4 w3.heap.size #[ptr (L.pb q)] 94:=by rw [← hw4]; exact Blk.new w3 _ _
 have hc4:Chg [] w3 w4:=by rw [← hw4]; exact (Chg.refl _ _).alloc _
 have hs4 : w4.heap.size=w3.heap.size + 1:=by rw [← hw4]; simp
 obtain ⟨bn,hbn⟩ : ∃ b,b=w.heap.size:=⟨_,rfl⟩
 obtain ⟨ba,hba⟩ : ∃ b,b=w0.heap.size:=⟨_,rfl⟩
 obtain ⟨be,hbe⟩ : ∃ b,b=w1.heap.size:=⟨_,rfl⟩
 obtain ⟨bi,hbi⟩ : ∃ b,b=w2.heap.size:=⟨_,rfl⟩
 obtain ⟨bt,hbt⟩ : ∃ b,b=w3.heap.size:=⟨_,rfl⟩
 have hcw:Chg [] w w3:=hc0.then (hc1.then (hc2.then hc3))
 have hcw4:Chg [] w w4:=hcw.then hc4
 have hn3:=(((hb0.kept hc1 (by simp)).kept hc2 (by simp)).kept hc3 (by simp)).kept hc4 (by simp)
 have ha3:=((hb1.kept hc2 (by simp)).kept hc3 (by simp)).kept hc4 (by simp)
 have he3:=(hb2.kept hc3 (by simp)).kept hc4 (by simp)
 have hi3:=hb3.kept hc4 (by simp)
 have hne : w2.heap.size≠w1.heap.size:=by omega
 have hne' : w1.heap.size≠w2.heap.size:=by omega
 have hwb:=hfr.blk.kept hcw (by simp)
 rw [← hbn] at hn3
 rw [← hba] at ha3
 rw [← hbe] at he3
 rw [← hbi] at hi3
 rw [← hbt] at hb4
 have b0:=hwb.cell 0 _ rfl; have b1:=hwb.cell 1 _ rfl
 have hlk3:=hlk w3 hcw
 have HLT:=Lib.hid (show bn=w.heap.size∧ba=w.heap.size + 1∧be=w.heap.size + 2∧bi=w.heap.size + 3∧bt=w.heap.size + 4∧w4.heap.size=w.heap.size + 5∧bw < w.heap.size by
  have:=h.lt bw (.inl h.own)
  omega)
 have HCE:=Lib.hid (fun (wx:World) (hx:Chg [] w wx)=>(show Chg [] w (((wx.setCell ⟨be,0,none⟩ (num 0)).setCell ⟨be,1,none⟩ nils).setCell ⟨bi,0,none⟩ (num 0)) from hx.trans ((Chg.set1 _ _ _ _).then (Chg.set1 _ _ _ _)) (fun x hx=>.inr (by have:=HLT.out; simp at hx; omega)) |>.trans (Chg.set1 _ _ _ _) (fun x hx=>.inr (by have:=HLT.out; simp at hx; omega))))
 have H:=Lib.hid h; have HR:=Lib.hid hr; have HFR:=Lib.hid hfr; have HCW:=Lib.hid hcw4; have HN:=Lib.hid hn3; have HA:=Lib.hid ha3; have HE:=Lib.hid he3; have HI:=Lib.hid hi3; have HT:=Lib.hid hb4
 obtain ⟨hpo,hfew,ai,ci,av,cv,ap,cp,ab,cb,bv',es,hp3,hmod,_,_,_⟩:=hpart.kept hcw4 (by simp)
 obtain ⟨vi,vv,vp,vb,hve,_,_,hpr,_⟩:=hmod
 cases hve
 have p3:=hp3.cell 3 _ rfl
 have t0:=hb4.cell 0 _ rfl
 have HIX:=Lib.hid (cindexp_any m.procs hfew.procs n bn _ _ w4 (procsL_of hpr) (hn3.cell 0 _ rfl))
 have HPR:=Lib.hid hpr; have HP3:=Lib.hid hp3; have HFW:=Lib.hid hfew; have HHAS:=Lib.hid hhas; have HORD:=Lib.hid hord; have HROW:=Lib.hid hrow; have HGA:=Lib.hid hga; have HAL:=Lib.hid hal; have HFU:=Lib.hid hfu; have HQ:=Lib.hid hq
 clear h hr hfr hb0 hc0 hs0 hb1 hc1 hs1 hb2 hc2 hs2 hb3 hc3 hs3 hc4 hs4 hcw hcw4 hn3 ha3 he3 hi3 hwb hlk hq hhas hord hget hown hbv hpart hpo hfew hp3 hpr hrow hga hal hfu
 go_enter Tryz.func31,Tryz.ntmps31
 rw [hbt] at t0
 rw [hbn] at HIX
 go_wp2_with fail
 refine HIX.out.mono ?_; rintro e w5 ⟨hat,hc5⟩
 rw [← hbn,← hba,← hbe,← hbi,← hbt]
 clear hw0 hw1 hw2 hw3 hw4 hbn hba hbe hbi hbt hne hne' b0 b1 hlk3 p3 t0
 have HC5:=Lib.hid hc5
 have hk5:Chg [] w w5:=HCW.out.then hc5
 obtain ⟨bk,hbk⟩ : ∃ b,b=w5.heap.size:=⟨_,rfl⟩
 have hcell : ∀ kk:Int,∃ w6,(w5.alloc (.cells #[num 0] 3)).setCell ⟨w5.heap.size,0,none⟩ (num kk)=w6∧Chg [] w5 w6∧Blk w6 bk #[num kk] 3∧w6.heap.size=w5.heap.size + 1:=fun kk=>by
  refine ⟨_,rfl,((Chg.refl [] w5).alloc _).trans (Chg.set1 _ _ _ _) (fun x hx=>.inr (by simp at hx; omega)),?_,by simp⟩
  rw [hbk]
  simpa using (Blk.new w5 #[num 0] 3).set 0 (num kk)
 have p3:=(HP3.out.kept hc5 (by simp)).cell 3 _ rfl
 have hn0:=(HT.out.kept hc5 (by simp)).cell 0 _ rfl; have hm0:=(HN.out.kept hc5 (by simp)).cell 0 _ rfl
 cases hfd : m.procs.find? fun p=>p.name == n && p.seen with
 | none=>
  rw [At1,hfd] at hat
  simp only at hat
  subst hat
  obtain ⟨w6,hw6,hc6,hb6,hs6⟩:=hcell (-1)
  have he6:=(HE.out.kept hc5 (by simp)).kept hc6 (by simp); have hi6:=(HI.out.kept hc5 (by simp)).kept hc6 (by simp)
  have e0:=he6.cell 0 _ rfl; have f0:=he6.frozen 0; have e1:=he6.cell 1 _ rfl; have f1:=he6.frozen 1; have i0:=hi6.cell 0 _ rfl; have g0:=hi6.frozen 0
  have k0:=hb6.cell 0 _ rfl
  have hne : bi≠be:=by have:=HLT.out; omega
  have hne' : be≠bi:=by have:=HLT.out; omega
  rw [hbk] at k0
  clear hbk
  have HEI:=Lib.hid (And.intro he6 hi6)
  have HC6:=Lib.hid (hk5.then hc6)
  have hrr : (W,0,[],0,.plain 7)=r:=by
   have hr:=HR.out
   rw [callW,HQ.out] at hr
   simp only at hr
   rw [hfd] at hr
   simp only at hr
   cases hr; rfl
  subst hrr
  obtain ⟨wE,hwE,hbE,hbI⟩:=setN he6 hi6 0 0 nils
  have HEF:=Lib.hid (And.intro hbE hbI)
  clear hc5 hk5 hcell hc6 hb6 hs6 he6 hi6 hbE hbI hfd
  go_wp2_with fail
  have y0:=HEF.out.1.cell 0 _ rfl; have y1:=HEF.out.1.cell 1 _ rfl; have y2:=HEF.out.2.cell 0 _ rfl
  refine bodyPost_ret (v:=.tuple #[.agg #[num 0,nils],num 0,.iface 46 (num 7)]) (by simp [results,Tryz.results31,go_sem,y0,y1,y2]) rfl ?_
  have hc:=HCE.out w6 HC6.out
  rw [hwE] at hc
  exact Called.no H.out hc rfl
 | some p=>
  rw [At1,hfd] at hat
  obtain ⟨kk,hkk,rfl⟩:=hat
  obtain ⟨w6,hw6,hc6,hb6,hs6⟩:=hcell kk
  have HFD:=Lib.hid hfd; have HKK:=Lib.hid hkk
  have k0:=hb6.cell 0 _ rfl
  rw [hbk] at k0
  have HC6:=Lib.hid (hk5.then hc6); have HB6:=Lib.hid hb6; have HS6:=Lib.hid hs6; have HC56:=Lib.hid hc6
  have hklt : ¬ ((kk:Int) < 0):=by omega
  obtain ⟨wD,hwD⟩ : ∃ x,x=w6.drew:=⟨_,rfl⟩
  have hcD:Chg [] w6 wD:=by rw [hwD]; exact (Chg.refl [] w6).drew
  have HCD:=Lib.hid hcD
  obtain ⟨bb,off,cc,vvp,vvv,vvb,hsl,hcc,_,_,_,d3,_,_,hn1,_,_⟩:=procsAt_cells (((HPR.out.kept hc5 (by simp)).kept hc6 (by simp)).kept hcD (by simp)) hkk
  simp only [Value.slice.injEq,true_and] at hsl
  obtain ⟨rfl,rfl⟩:=hsl
  obtain ⟨aq,cq,rfl,_⟩:=hn1
  have hkl:=(List.getElem?_eq_some_iff.1 hkk).1
  have HKL:=Lib.hid hkl
  have hc5D:Chg [] w4 wD:=(hc5.then hc6).then hcD
  have HC4D:=Lib.hid hc5D
  have a0:=(HA.out.kept hc5D (by simp)).cell 0 _ rfl; have t0:=(HT.out.kept hc5D (by simp)).cell 0 _ rfl; have p3':=(HP3.out.kept hc5D (by simp)).cell 3 _ rfl; have kD:=(hb6.kept hcD (by simp)).cell 0 _ rfl
  have Z1:=Lib.hid (Zone.of (X:=[]) (w0:=wD) a0 (by simp)); have Z2:=Lib.hid (Zone.of (X:=[]) (w0:=wD) t0 (by simp)); have Z3:=Lib.hid (Zone.of (X:=[]) (w0:=wD) p3' (by simp)); have Z4:=Lib.hid (Zone.of (X:=[]) (w0:=wD) kD (by simp)); have Z5:=Lib.hid (Zone.of (X:=[]) (w0:=wD) d3 (by simp))
  clear hfd hkk hc6 hb6 hs6 hcell hcD hc5D hc5
  go_wp2_with fail
  rw [← hbk]
  clear hbk hw6 k0 hn0 hm0 p3 hk5
  cases hcmp : ((args.length:Int) != (p.params.length:Int)) with
  | true=>
   have hne' : args.length≠p.params.length:=fun e=>by simp [e] at hcmp
   have hrr : (W,0,[],0,.plain 2)=r:=by
    have hr:=HR.out
    rw [callW,HQ.out] at hr
    simp only at hr
    rw [HFD.out] at hr
    simp only at hr
    rw [if_pos hne'] at hr
    cases hr; rfl
   subst hrr
   have heD:=HE.out.kept HC4D.out (by simp); have hiD:=HI.out.kept HC4D.out (by simp)
   have e0:=heD.cell 0 _ rfl; have f0:=heD.frozen 0; have e1:=heD.cell 1 _ rfl; have f1:=heD.frozen 1; have i0:=hiD.cell 0 _ rfl; have g0:=hiD.frozen 0
   have hnx : bi≠be:=by have:=HLT.out; omega
   have hnx' : be≠bi:=by have:=HLT.out; omega
   obtain ⟨wE,hwE,hbE,hbI⟩:=setN heD hiD 0 0 nils
   have HEF:=Lib.hid (And.intro hbE hbI)
   clear heD hiD hbE hbI hne'
   refine wp_region_L [] rfl (by kernel_rfl) ?_
   rw [← hwD]
   clear hwD
   have hS:Chg [] wD wD:=Chg.refl _ _
   repeat ((with_reducible show wpX _ _ _ _ _ _ _ _);(first | refine wpX_nil ?_ | refine wpX_skip rfl ?_ | refine wpX_mv rfl rfl (by kernel_rfl) (fun _ _=>?_) | refine wpX_ldC rfl rfl rfl (by first | exact Z1.out | exact Z2.out | exact Z3.out | exact Z4.out | exact Z5.out) (by assumption) (fun _ _=>?_) | refine wpX_ef' rfl rfl rfl (fun _ _=>?_));go_wp2_with fail)
   have y0:=HEF.out.1.cell 0 _ rfl; have y1:=HEF.out.1.cell 1 _ rfl; have y2:=HEF.out.2.cell 0 _ rfl
   refine bodyPost_ret (v:=.tuple #[.agg #[num 0,nils],num 0,.iface 46 (num 2)]) (by simp [results,Tryz.results31,go_sem,y0,y1,y2]) rfl ?_
   have hc:=HCE.out wD (HCW.out.then HC4D.out)
   rw [hwE] at hc
   exact Called.no H.out hc rfl
  | false=>
   have hln : args.length=p.params.length:=by
    have : (args.length:Int)=p.params.length:=by simpa using hcmp
    omega
   obtain ⟨ob,hob⟩ : ∃ o,o=(fns W.M g).c 0 q p args ⟨fuel,[],W.vs⟩:=⟨_,rfl⟩
   have hr:=HR.out
   rw [callW,HQ.out] at hr
   simp only at hr
   rw [HFD.out] at hr
   simp only at hr
   rw [if_neg (by simpa using hln),← hob] at hr
   have hnst : ob ≠ .stuck:=fun h=>by rw [h] at hr; cases hr
   have hcWD:Chg [] w wD:=HCW.out.then HC4D.out
   have hXl : ∃ X:List Nat,(∀ n s',ob = .ok n s'→X=[bi])∧(∀ way s',ob = .stop way s'→X=[]):=by
    cases ob with
    | ok n s'=>exact ⟨[bi],fun _ _ _=>rfl,fun _ _ h=>by cases h⟩
    | stop way s'=>exact ⟨[],fun _ _ h=>(by cases h),fun _ _ _=>rfl⟩
    | stuck=>exact absurd rfl hnst
   obtain ⟨X,hX1,hX2⟩:=hXl
   have hXb : ∀ x∈X,x=bi:=fun x hx=>by
    cases hob' : ob with
    | ok n s'=>rw [hX1 n s' hob'] at hx; simpa using hx
    | stop way s'=>rw [hX2 way s' hob'] at hx; cases hx
    | stuck=>exact absurd hob' hnst
   have hlow:=fun x (hx : w.heap.size≤x)=>HHAS.out.home.low hx
   have hsD:=hcWD.size
   have HGS:=Lib.hid (goes_any4 66 (ptr bt) (ptr bk) (ptr ba) (ptr bi) (fun args w=>rfl) ob (fun w' n e=>e = .returned (.tuple #[])∧Blk w' bi #[num n] i64T) (fun _ _ _ h=>h.1) L W.vs fuel HFU.out X wD (HHAS.out.home.kept hcWD) (fun x hx=>by rw [hXb x hx]; have:=HLT.out; have:=HC4D.out.size; omega) hnst (fun w1 br hbr hc1 hg=>by
    rw [hob,← HHAS.out.M]
    exact call_does (L:={ L with br:=br }) (q:=q) (m:=m) (p:=p) (k:=kk) (args:=args) (a:=a) (c:=c) (b13:=bt) (b15:=bk) (b8:=ba) (b11:=bi) (u:=num 0) g hg (by show L.M q=some m; rw [HHAS.out.M]; exact HQ.out) HKK.out (((HT.out.kept HC4D.out (by simp)).kept hc1 (by simp))) (((HB6.out.kept HCD.out (by simp)).kept hc1 (by simp))) (((HA.out.kept HC4D.out (by simp)).kept hc1 (by simp))) (((HI.out.kept HC4D.out (by simp)).kept hc1 (by simp))) ⟨fun hm=>by
     have hb:=hlow bi (by have:=HLT.out; omega)
     rcases List.mem_cons.1 hm with h | hm
     ·have h : bi=br:=h
      have:=HLT.out; have:=HC4D.out.size; omega
     ·exact hb.2 (by simpa [blk] using hm),(hlow bi (by have:=HLT.out; omega)).1⟩ ((((HROW.out.kept hcWD (by simp)).kept hc1 (by simp))).mono (fun x hx hm=>by
     have hx:=HGA.out x hx
     rcases List.mem_cons.1 hm with h | hm
     ·have h : x=br:=h
      omega
     ·exact hx.2 (HHAS.out.arrs x (by simpa [blk] using hm)))) HAL.out (by show (fns L.M g).c 0 q p args _≠_; rw [HHAS.out.M,← hob]; exact hnst) X (fun n s' he=>hX1 n s' (by rw [hob,← HHAS.out.M]; exact he))))
   rw [HHAS.out.bw_] at HGS
   have HOB:=Lib.hid hob; have HRR:=Lib.hid hr; have HX1:=Lib.hid hX1; have HX2:=Lib.hid hX2; have HXB:=Lib.hid hXb; have HLOW:=Lib.hid hlow; have HWD:=Lib.hid hcWD
   clear hob hr hnst hX1 hX2 hXb hlow hsD hcWD hln
   refine wp_region_L [] rfl (by kernel_rfl) ?_
   rw [← hwD]
   clear hwD
   have hS:Chg [] wD wD:=Chg.refl _ _
   repeat ((with_reducible show wpX _ _ _ _ _ _ _ _);(first | refine wpX_nil ?_ | refine wpX_skip rfl ?_ | refine wpX_mv rfl rfl (by kernel_rfl) (fun _ _=>?_) | refine wpX_ldC rfl rfl rfl (by first | exact Z1.out | exact Z2.out | exact Z3.out | exact Z4.out | exact Z5.out) (by assumption) (fun _ _=>?_) | refine wpX_ef' rfl rfl rfl (fun _ _=>?_));go_wp2_with fail)
   clear hS Z1 Z2 Z3 Z4 Z5 a0 t0 p3' kD d3
   refine HGS.out.mono ?_; rintro _ w9 ⟨ve,rfl,hev,hh9,hc9,hok⟩
   obtain ⟨eov,rfl,heo,hef⟩:=hev
   obtain ⟨ea,ec,rfl⟩:=slice_of_owns heo
   have hbx : ∀ x,x=be∨x=bi→x∉L.arrs:=fun x hx=>(HLOW.out x (by have:=HLT.out; omega)).2
   have hbe9:=(HE.out.kept HC4D.out (by simp)).kept hc9 (fun hm=>by
    rcases List.mem_append.1 hm with h | h
    ·have:=HXB.out _ h; have:=HLT.out; omega
    ·exact hbx be (.inl rfl) h)
   have HH9:=Lib.hid hh9; have HC9:=Lib.hid hc9; have HEO:=Lib.hid heo; have HEF:=Lib.hid hef
   have e0:=hbe9.cell 0 _ rfl; have f0:=hbe9.frozen 0; have e1:=hbe9.cell 1 _ rfl; have f1:=hbe9.frozen 1
   have HBE9:=Lib.hid hbe9
   have hnx : bi≠be:=by have:=HLT.out; omega
   have hnx' : be≠bi:=by have:=HLT.out; omega
   cases hob : ob with
   | stuck=>
    have:=HRR.out
    rw [hob] at this
    cases this
   | ok nn s9=>
    obtain ⟨w2',⟨_,hbi2⟩,hcw2⟩:=hok nn s9 hob
    have hbi9:Blk w9 bi #[num nn] i64T:=hbi2.kept hcw2 (by have:=HC4D.out.size; have:=HLT.out; simp; omega)
    have i0:=hbi9.cell 0 _ rfl; have g0:=hbi9.frozen 0
    have HBI9:=Lib.hid hbi9
    have HOBB:=Lib.hid hob
    subst hob
    clear hh9 hc9 heo hef hbe9 hbi9 hok hbx hbi2 hcw2
    simp only [endOf,stOf] at *
    obtain ⟨wS,hwS,hbS,hcS⟩:=setE 1 (.slice ea s9.out.length ec) HBE9.out
    have hiS:=HBI9.out.kept hcS (by simpa using hnx)
    have s0:=hbS.cell 0 _ rfl; have s1:=hbS.cell 1 _ rfl; have t0:=hbS.frozen 0; have t1:=hbS.frozen 1; have j0:=hiS.cell 0 _ rfl; have j1:=hiS.frozen 0
    have HBS:=Lib.hid hbS; have HIS:=Lib.hid hiS; have HCS:=Lib.hid hcS
    clear hbS hiS hcS
    go_wp2_with fail
    clear e0 f0 e1 f1 i0 g0 hwS
    have s0':=(HBS.out.kept (Chg.refl [] wS).drew (by simp)).cell 0 _ rfl; have s1':=(HBS.out.kept (Chg.refl [] wS).drew (by simp)).cell 1 _ rfl; have j0':=(HIS.out.kept (Chg.refl [] wS).drew (by simp)).cell 0 _ rfl
    go_region
    all_goals (try go_wp2_with fail)
    obtain ⟨wE,hwE,hbE,hbI⟩:=setN HBS.out HIS.out 1 nn (.slice ea s9.out.length ec)
    have hcE:Chg [be,bi] wS wE:=by
     rw [← hwE]
     exact (((Chg.refl [be,bi] wS).setCell _ (.inl (by simp)) _).setCell _ (.inl (by simp)) _).setCell _ (.inl (by simp)) _
    rw [hwE]
    have y0:=(hbE.kept (Chg.refl [] wE).drew (by simp)).cell 0 _ rfl; have y1:=(hbE.kept (Chg.refl [] wE).drew (by simp)).cell 1 _ rfl; have y2:=(hbI.kept (Chg.refl [] wE).drew (by simp)).cell 0 _ rfl
    refine bodyPost_ret (v:=.tuple #[.agg #[num 1,.slice ea s9.out.length ec],num nn,.nilIface]) (by simp [results,Tryz.results31,go_sem,y0,y1,y2]) rfl ?_
    have hrr:=HRR.out
    simp only [Option.some.injEq] at hrr
    subst hrr
    exact Called.done (bi:=bi) (be:=be) (way:=1) H.out HHAS.out HWD.out HH9.out HC9.out HXB.out (by have:=HLT.out; have:=HC4D.out.size; omega) HEO.out HEF.out (((HCS.out.mono (fun x hx=>.inl (by simp at hx; simp [hx]))).then hcE).then (Chg.refl [be,bi] wE).drew)
   | stop way s9=>
    have hXn:X=[]:=HX2.out way s9 hob
    subst hXn
    have hbi9:Blk w9 bi #[num 0] i64T:=(HI.out.kept HC4D.out (by simp)).kept hc9 (fun hm=>hbx bi (.inr rfl) (by simpa using hm))
    have i0:=hbi9.cell 0 _ rfl; have g0:=hbi9.frozen 0
    have HBI9:=Lib.hid hbi9
    subst hob
    clear hh9 hc9 heo hef hbe9 hbi9 hok hbx
    simp only [endOf,stOf] at *
    by_cases hway : way=1
    ·subst hway
     obtain ⟨wS,hwS,hbS,hcS⟩:=setE 1 (.slice ea s9.out.length ec) HBE9.out
     have hiS:=HBI9.out.kept hcS (by simpa using hnx)
     have s0:=hbS.cell 0 _ rfl; have s1:=hbS.cell 1 _ rfl; have t0:=hbS.frozen 0; have t1:=hbS.frozen 1; have j0:=hiS.cell 0 _ rfl; have j1:=hiS.frozen 0
     have HBS:=Lib.hid hbS; have HIS:=Lib.hid hiS; have HCS:=Lib.hid hcS
     clear hbS hiS hcS
     go_wp2_with fail
     clear e0 f0 e1 f1 i0 g0 hwS
     have s0':=(HBS.out.kept (Chg.refl [] wS).drew (by simp)).cell 0 _ rfl; have s1':=(HBS.out.kept (Chg.refl [] wS).drew (by simp)).cell 1 _ rfl; have j0':=(HIS.out.kept (Chg.refl [] wS).drew (by simp)).cell 0 _ rfl
     go_region
     all_goals (try go_wp2_with fail)
     obtain ⟨wE,hwE,hbE,hbI⟩:=setN HBS.out HIS.out 1 0 (.slice ea s9.out.length ec)
     have hcE:Chg [be,bi] wS wE:=by
      rw [← hwE]
      exact (((Chg.refl [be,bi] wS).setCell _ (.inl (by simp)) _).setCell _ (.inl (by simp)) _).setCell _ (.inl (by simp)) _
     rw [hwE]
     have y0:=(hbE.kept (Chg.refl [] wE).drew (by simp)).cell 0 _ rfl; have y1:=(hbE.kept (Chg.refl [] wE).drew (by simp)).cell 1 _ rfl; have y2:=(hbI.kept (Chg.refl [] wE).drew (by simp)).cell 0 _ rfl
     refine bodyPost_ret (v:=.tuple #[.agg #[num 1,.slice ea s9.out.length ec],num 0,.nilIface]) (by simp [results,Tryz.results31,go_sem,y0,y1,y2]) rfl ?_
     have hrr:=HRR.out
     simp only [Option.some.injEq] at hrr
     subst hrr
     exact Called.done (bi:=bi) (be:=be) (way:=1) H.out HHAS.out HWD.out HH9.out HC9.out HXB.out (by have:=HLT.out; have:=HC4D.out.size; omega) HEO.out HEF.out (((HCS.out.mono (fun x hx=>.inl (by simp at hx; simp [hx]))).then hcE).then (Chg.refl [be,bi] wE).drew)
    ·have hway' : ¬ (way:Int)=1:=by omega
     obtain ⟨wS,hwS,hbS,hcS⟩:=setE way (.slice ea s9.out.length ec) HBE9.out
     have hiS:=HBI9.out.kept hcS (by simpa using hnx)
     have s0:=hbS.cell 0 _ rfl; have s1:=hbS.cell 1 _ rfl; have t0:=hbS.frozen 0; have t1:=hbS.frozen 1; have j0:=hiS.cell 0 _ rfl; have j1:=hiS.frozen 0
     obtain ⟨wT,hwT⟩ : ∃ x,wS.setCell ⟨bi,0,none⟩ (num 0)=x:=⟨_,rfl⟩
     have hcT:Chg [bi] wS wT:=by rw [← hwT]; exact Chg.set1 _ _ _ _
     have hiT:Blk wT bi #[num 0] i64T:=by rw [← hwT]; simpa using hiS.set 0 (num 0)
     have hbT:=hbS.kept hcT (by simpa using hnx')
     have HCS:=Lib.hid hcS; have HBT:=Lib.hid hbT; have HIT:=Lib.hid hiT; have HCT:=Lib.hid hcT
     clear hbS hiS hcS hcT hiT hbT
     go_wp2_with fail
     clear e0 f0 e1 f1 i0 g0 hwS s0 s1 t0 t1 j0 j1 hwT
     have s0:=HBT.out.cell 0 _ rfl; have s1:=HBT.out.cell 1 _ rfl; have t0:=HBT.out.frozen 0; have t1:=HBT.out.frozen 1; have j0:=HIT.out.cell 0 _ rfl; have j1:=HIT.out.frozen 0
     have s0':=(HBT.out.kept (Chg.refl [] wT).drew (by simp)).cell 0 _ rfl; have s1':=(HBT.out.kept (Chg.refl [] wT).drew (by simp)).cell 1 _ rfl; have j0':=(HIT.out.kept (Chg.refl [] wT).drew (by simp)).cell 0 _ rfl
     go_region
     all_goals (try go_wp2_with fail)
     obtain ⟨wE,hwE,hbE,hbI⟩:=setN HBT.out HIT.out way 0 (.slice ea s9.out.length ec)
     have hcE:Chg [be,bi] wT wE:=by
      rw [← hwE]
      exact (((Chg.refl [be,bi] wT).setCell _ (.inl (by simp)) _).setCell _ (.inl (by simp)) _).setCell _ (.inl (by simp)) _
     rw [hwE]
     have y0:=(hbE.kept (Chg.refl [] wE).drew (by simp)).cell 0 _ rfl; have y1:=(hbE.kept (Chg.refl [] wE).drew (by simp)).cell 1 _ rfl; have y2:=(hbI.kept (Chg.refl [] wE).drew (by simp)).cell 0 _ rfl
     refine bodyPost_ret (v:=.tuple #[.agg #[num way,.slice ea s9.out.length ec],num 0,.nilIface]) (by simp [results,Tryz.results31,go_sem,y0,y1,y2]) rfl ?_
     have hrr:=HRR.out
     simp only [Option.some.injEq] at hrr
     subst hrr
     exact Called.done (bi:=bi) (be:=be) (way:=way) H.out HHAS.out HWD.out HH9.out HC9.out HXB.out (by have:=HLT.out; have:=HC4D.out.size; omega) HEO.out HEF.out ((((HCS.out.mono (fun x hx=>.inl (by simp at hx; simp [hx]))).then (HCT.out.mono (fun x hx=>.inl (by simp at hx; simp [hx])))).then hcE).then (Chg.refl [be,bi] wE).drew)
theorem wcall_any (g:Nat) {w:World} {Own G:Nat→Prop} {bw:Nat} {W:Wd} {q n:Nm} {args:List Int} {a:Option Addr} {c:Nat} {fuel:Nat} {r:Wd × Nat × List Int × Int × Out} (h:WAt w Own G bw W) {Ga:Nat→Prop} (hrow:Row w Ga a (ints args)) (hga : ∀ x,Ga x→x < w.heap.size∧¬ Own x) (hal : args.length≤2000) (hfu : fuel≤9223372036854775807) (hr : callW g W q n args fuel=some r) :
  Calls Tryz.prog 31 #[ptr bw,str q,str n,.slice a args.length c,num fuel] w (Called w Own G bw r):=by
 cases hq:W.M q with
 | none=>exact wcall_none g h hq hr
 | some m=>exact wcall_some g h hrow hga hal hfu hq hr
end Go.Proofs.YtechofppmnnomaaGreatDoor
namespace Go.Proofs.YtechofppmnnomaaGreatDoor
open Go Go.RowKit Go.Mq Go.Mq.Tree Go.Mq.Sym Go.Mq.Run
set_option maxRecDepth 100000
set_option maxHeartbeats 4000000
theorem ints_cell {w:World} {F:Nat→Prop} {a:Option Addr} {l:List Int} (h:Row w F a (ints l)) {k:Nat} (hk : k < l.length) : ∃ bb off,a=some ⟨bb,off,none⟩∧w.cell? ⟨bb,off + k,none⟩=some (num l[k]):=by
 obtain ⟨bb,off,rfl,hc⟩:=h.at_ (by simp; omega)
 exact ⟨bb,off,rfl,hc k _ (by simp [hk])⟩
theorem equal_any (x y:List Int) (hx : x.length≤100000) (hy : y.length≤100000) (a b:Option Addr) (c d:Nat) (F G:Nat→Prop) (w:World) (ha:Row w F a (ints x)) (hb:Row w G b (ints y)) :
  Calls Tryz.prog 18 #[.slice a x.length c,.slice b y.length d] w (fun e w'=>e = .returned (.bool (decide (x=y)))∧Chg [] w w'):=by
 have HA:=Lib.hid ha; have HB:=Lib.hid hb
 clear ha hb
 cases hlen : ((x.length:Int) != (y.length:Int)) with
 | true=>
  have hne : x≠y:=fun e=>by subst e; simp at hlen
  go_enter Tryz.func18,Tryz.ntmps18
  go_wp2_with fail
  go_ret
  exact ⟨by simp [hne],Chg.refl _ _⟩
 | false=>
  have hll : x.length=y.length:=by
   have : (x.length:Int)=y.length:=by simpa using hlen
   omega
  have HLL:=Lib.hid hll
  clear hll
  go_enter Tryz.func18,Tryz.ntmps18
  go_wp2_with fail
  go_loopw [5,13] (fun _ i wr=>∃ k:Nat,i = .int .i64 k∧k≤x.length∧Chg [] w wr∧x.take k=y.take k) (fun _ i _=>x.length - (intOf i).toNat)
  case atStart=>exact ⟨0,rfl,Nat.zero_le _,Chg.refl _ _,by simp⟩
  case round=>
   obtain ⟨k,rfl,hk,hc,hno⟩:=hrel
   have HNO:=Lib.hid hno; have HC:=Lib.hid hc
   clear hno hc
   by_cases hlt : k < x.length
   ·have hlt2 : k < y.length:=by have:=HLL.out; omega
    obtain ⟨xk,hxk⟩ : ∃ z,z=x[k]:=⟨_,rfl⟩
    obtain ⟨yk,hyk⟩ : ∃ z,z=y[k]:=⟨_,rfl⟩
    have hr:Chg [] w wr.drew:=HC.out.drew
    obtain ⟨b1,o1,rfl,d1⟩:=ints_cell (HA.out.kept HC.out (by simp)) hlt
    obtain ⟨b2,o2,rfl,d2⟩:=ints_cell (HB.out.kept HC.out (by simp)) hlt2
    rw [← hxk] at d1
    rw [← hyk] at d2
    have HXK:=Lib.hid hxk; have HYK:=Lib.hid hyk; have HR:=Lib.hid hr
    clear hxk hyk hr
    have hkl : k < y.length:=hlt2
    cases hq : (xk != yk) with
    | true=>
     have hne : x≠y:=fun e=>by
      have h1:=HXK.out; have h2:=HYK.out
      subst e
      rw [h1,h2] at hq
      simp at hq
     go_wp2_with fail
     go_region
     all_goals (try go_wp2_with fail)
     go_ret
     exact ⟨by simp [hne],HR.out⟩
    | false=>
     have hee : xk=yk:=by simpa using hq
     have HEE:=Lib.hid hee
     clear hee
     go_wp2_with fail
     go_region
     all_goals (try go_wp2_with fail)
     refine ⟨⟨k + 1,by go_num,by omega,HR.out,?_⟩,by simp [intOf]; omega⟩
     rw [List.take_succ_eq_append_getElem hlt,List.take_succ_eq_append_getElem hlt2,HNO.out,← HXK.out,← HYK.out,HEE.out]
   ·have hkx : k=x.length:=by omega
    have he : x=y:=by
     have h1:=HNO.out
     rw [hkx,List.take_length,HLL.out,List.take_length] at h1
     exact h1
    go_wp2_with fail
    go_ret
    exact ⟨by simp [he],HC.out⟩
end Go.Proofs.YtechofppmnnomaaGreatDoor
namespace Go.Mq.Run
open Go Go.RowKit Go.Mq Go.Mq.Tree Go.Mq.Sym
open Go.Mq.Check (check Out)
def okR:Out→Bool
 | .fine=>true
 | _=>false
theorem ran_fact : (match parse [109,111,100,117,108,101,32,109,59,32,118,97,114,32,120,58,32,105,110,116,59,32,112,114,111,99,32,102,42,40,97,41,59,32,98,101,103,105,110,32,120,32,58,61,32,120,32,43,32,97,59,32,114,101,116,117,114,110,32,120,32,42,32,50,59,32,101,110,100,59,32,98,101,103,105,110,32,119,114,105,116,101,32,102,40,51,41,59,32,101,110,100,46] with
  | .ok m=>match loadW 30 Wd.zero m 100 with
   | some r=>r.2.1 == 1 && r.2.2.1 == [6] && okR r.2.2.2 && match callW 30 r.1 [109] [102] [4] 100 with
    | some c=>c.2.1 == 1 && c.2.2.2.1 == 14 && okR c.2.2.2.2
    | none=>false
   | none=>false
  | .bad _ _=>false)=true:=by
 decide +kernel
theorem ran_at : ∃ m,parse [109,111,100,117,108,101,32,109,59,32,118,97,114,32,120,58,32,105,110,116,59,32,112,114,111,99,32,102,42,40,97,41,59,32,98,101,103,105,110,32,120,32,58,61,32,120,32,43,32,97,59,32,114,101,116,117,114,110,32,120,32,42,32,50,59,32,101,110,100,59,32,98,101,103,105,110,32,119,114,105,116,101,32,102,40,51,41,59,32,101,110,100,46] = .ok m ∧ ∃ W1 W2 out,loadW 30 Wd.zero m 100=some (W1,1,[6],.fine)∧callW 30 W1 [109] [102] [4] 100=some (W2,1,out,14,.fine):=by
 have h:=ran_fact
 split at h
 ·rename_i m hm
  refine ⟨m,hm,?_⟩
  split at h
  ·rename_i r hr
   obtain ⟨W1,way,out,o⟩:=r
   simp only [Bool.and_eq_true,beq_iff_eq] at h
   obtain ⟨⟨⟨rfl,rfl⟩,ho⟩,h⟩:=h
   split at h
   ·rename_i c hc
    obtain ⟨W2,way2,out2,n,o2⟩:=c
    simp only [Bool.and_eq_true,beq_iff_eq] at h
    obtain ⟨⟨rfl,rfl⟩,ho2⟩:=h
    refine ⟨W1,W2,out2,?_,?_⟩
    ·cases o with
     | fine=>exact hr
     | plain e=>cases ho
     | at_ e p=>cases ho
    ·cases o2 with
     | fine=>exact hc
     | plain e=>cases ho2
     | at_ e p=>cases ho2
   ·cases h
  ·cases h
 ·cases h
theorem WAt.new {w:World} {bw:Nat} (h:Blk w bw #[.map none,nils] 40):WAt w (fun x=>x=bw) (fun _=>False) bw Wd.zero:=
 ⟨rfl,fun x hx=>by rcases hx with rfl | hx; exact h.lt; exact hx.elim,fun _ _ h=>h,fun _ _ h=>(by cases h),by simp [Wd.zero],.inl ⟨rfl,h⟩⟩
theorem ChgO.new {w w1 w2:World} {Own:Nat→Prop} (h:ChgO Own w1 w2) (hc:Chg [] w w1) (hO : ∀ x,Own x→w.heap.size≤x):Chg [] w w2:=by
 obtain ⟨Z,hz,hZ⟩:=h
 exact hc.trans hz (fun x hx=>.inr (hO x (hZ x hx)))
end Go.Mq.Run
namespace Go.Proofs.YtechofppmnnomaaGreatDoor
open Go Go.RowKit Go.Mq Go.Mq.Tree Go.Mq.Sym Go.Mq.Run
open Go.Mq.Check (check Out)
set_option maxRecDepth 100000
set_option maxHeartbeats 4000000
theorem ran_any (w:World) (B:Nat) (hL:Laid w B):Calls Tryz.prog 9 #[] w (Holds w):=by
 obtain ⟨m,hm,W1,W2,out,hl,hcl⟩:=ran_at
 have hgood:=good_of (t:=[109,111,100,117,108,101,32,109,59,32,118,97,114,32,120,58,32,105,110,116,59,32,112,114,111,99,32,102,42,40,97,41,59,32,98,101,103,105,110,32,120,32,58,61,32,120,32,43,32,97,59,32,114,101,116,117,114,110,32,120,32,42,32,50,59,32,101,110,100,59,32,98,101,103,105,110,32,119,114,105,116,101,32,102,40,51,41,59,32,101,110,100,46]) (by decide) hm
 have hP:=parse_any [109,111,100,117,108,101,32,109,59,32,118,97,114,32,120,58,32,105,110,116,59,32,112,114,111,99,32,102,42,40,97,41,59,32,98,101,103,105,110,32,120,32,58,61,32,120,32,43,32,97,59,32,114,101,116,117,114,110,32,120,32,42,32,50,59,32,101,110,100,59,32,98,101,103,105,110,32,119,114,105,116,101,32,102,40,51,41,59,32,101,110,100,46] (by decide) w B hL
 rw [hm] at hP
 have HP:=Lib.hid hP
 have HL1:=Lib.hid hl; have HC1:=Lib.hid hcl; have HGO:=Lib.hid hgood
 clear hP hm hl hcl hL hgood
 go_enter Tryz.func9,Tryz.ntmps9
 go_wp2_with fail
 refine HP.out.mono ?_; rintro _ w1 ⟨hc1,v,rfl,hmod⟩
 have HMD:=Lib.hid hmod
 obtain ⟨aia,cia,ava,cva,apa,cpa,aba,cba,rfl,hgv,hpv⟩:=mod_parts hmod
 have hz:=Blk.new w1 #[str [],nils,nils,nils,nils] 32
 obtain ⟨wA,hwA⟩ : ∃ w',w1.alloc (.cells #[str [],nils,nils,nils,nils] 32)=w':=⟨_,rfl⟩
 rw [hwA] at hz
 have hcA:Chg [] w1 wA:=by rw [← hwA]; exact (Chg.refl _ _).alloc _
 obtain ⟨wF,hwF,hcF,hbF⟩:=set5 (str m.name) (.slice aia m.imports.length cia) (.slice ava m.vars.length cva) (.slice apa m.procs.length cpa) (.slice aba m.body.len cba) hz
 have hcG:Chg [] w1 wF:=hcA.trans hcF (fun x hx=>.inr (by simp at hx; omega))
 have z0:=hz.cell 0 _ rfl; have z1:=hz.cell 1 _ rfl; have z2:=hz.cell 2 _ rfl; have z3:=hz.cell 3 _ rfl; have z4:=hz.cell 4 _ rfl
 have y0:=hz.frozen 0; have y1:=hz.frozen 1; have y2:=hz.frozen 2; have y3:=hz.frozen 3; have y4:=hz.frozen 4
 obtain ⟨wW,hwW⟩ : ∃ x,wF.alloc (.cells #[.map none,nils] 40)=x:=⟨_,rfl⟩
 have hbW:Blk wW wF.heap.size #[.map none,nils] 40:=by rw [← hwW]; exact Blk.new wF _ _
 have hcW:Chg [] wF wW:=by rw [← hwW]; exact (Chg.refl _ _).alloc _
 have hsW : wW.heap.size=wF.heap.size + 1:=by rw [← hwW]; simp
 have hcwW:Chg [] w wW:=hc1.then (hcG.then hcW)
 have hx:=hbF.kept hcW (by simp)
 have x0:=hx.cell 0 _ rfl; have x1:=hx.cell 1 _ rfl; have x2:=hx.cell 2 _ rfl; have x3:=hx.cell 3 _ rfl; have x4:=hx.cell 4 _ rfl
 have hML:ModAt wW (New w w1) m (.agg #[str m.name,.slice aia m.imports.length cia,.slice ava m.vars.length cva,.slice apa m.procs.length cpa,.slice aba m.body.len cba]):=(HMD.out.kept (hcG.then hcW) (by simp)).mono (fun x hx=>hx)
 have hs1:=hc1.size; have hsG:=hcG.size
 have HLD:=Lib.hid (load_any 30 (WAt.new hbW) hML (fun x hx=>⟨by have:=hx.2; omega,fun e=>by have:=hx.2; omega⟩) HGO.out (by decide : (100:Nat)≤9223372036854775807) HL1.out)
 have HCW:=Lib.hid hcwW; have HSW:=Lib.hid (show w.heap.size≤wF.heap.size∧wW.heap.size=wF.heap.size + 1 by omega)
 clear hc1 hz hcA hcF hbF hcG hbW hcW hsW hcwW hML hs1 hsG hx hmod hgv hpv
 go_wp2_with fail
 clear hwA hwF hwW z0 z1 z2 z3 z4 y0 y1 y2 y3 y4 x0 x1 x2 x3 x4
 refine HLD.out.mono ?_; rintro _ w2 ⟨ve,vo,rfl,hev,hvo,hwat,hch⟩
 obtain ⟨ov,rfl,hov,_⟩:=hev
 obtain ⟨ea,ec,rfl⟩:=slice_of_owns hov
 simp only [ErrV] at hvo
 subst hvo
 have hc02:Chg [] w w2:=hch.new HCW.out (fun x hx=>by have:=HSW.out; omega)
 obtain ⟨wI,hwI⟩ : ∃ x,w2.alloc (.cells #[num 0,nils] 43)=x:=⟨_,rfl⟩
 have hbI:Blk wI w2.heap.size #[num 0,nils] 43:=by rw [← hwI]; exact Blk.new w2 _ _
 have hcI:Chg [] w2 wI:=by rw [← hwI]; exact (Chg.refl _ _).alloc _
 have i0:=hbI.cell 0 _ rfl; have i1:=hbI.cell 1 _ rfl; have j0:=hbI.frozen 0; have j1:=hbI.frozen 1
 obtain ⟨wJ,hwJ,hbJ,hcJ⟩:=setE 1 (.slice ea 1 ec) hbI
 have hc2J:Chg [] w2 wJ:=hcI.trans hcJ (fun x hx=>.inr (by simp at hx; omega))
 have k0:=hbJ.cell 0 _ rfl; have k1:=hbJ.cell 1 _ rfl
 obtain ⟨wK,hwK⟩ : ∃ x,wJ.alloc (.cells #[num 6] i64T)=x:=⟨_,rfl⟩
 have hbK:Blk wK wJ.heap.size #[num 6] i64T:=by rw [← hwK]; exact Blk.new wJ _ _
 have hcK:Chg [] wJ wK:=by rw [← hwK]; exact (Chg.refl _ _).alloc _
 have hc2K:Chg [] w2 wK:=hc2J.then hcK
 have HEQ:=Lib.hid (show Calls Tryz.prog 18 #[.slice ea 1 ec,.slice (some ⟨wJ.heap.size,0,none⟩) 1 1] wK (fun e w'=>e = .returned (.bool true)∧Chg [] wK w') from by
  obtain ⟨a',c',he,_,hr⟩:=Row.of_owns (F:=fun _=>True) hov (fun _ _=>trivial)
  cases he
  exact equal_any [6] [6] (by decide) (by decide) _ _ _ 1 (fun _=>True) (fun _=>True) wK (hr.kept hc2K (by simp)) ⟨fun _=>⟨_,0,rfl,fun i x hx=>by rw [Nat.zero_add]; exact hbK.cell i x (by simpa using hx)⟩,fun _ _ _=>trivial⟩)
 have HWAT:=Lib.hid hwat; have H02:=Lib.hid hc02; have H2K:=Lib.hid hc2K
 have HBK:=Lib.hid (hbJ.kept hcK (by simp))
 clear hov hch hwat hc02 hbI hcI hbJ hcJ hc2J hbK hcK hc2K
 go_wp2_with fail
 refine HEQ.out.mono ?_; rintro _ w5 ⟨rfl,hc5⟩
 clear hwI hwJ hwK i0 i1 j0 j1 k0 k1
 obtain ⟨wL,hwL⟩ : ∃ x,w5.alloc (.cells #[num 4] i64T)=x:=⟨_,rfl⟩
 have hbL:Blk wL w5.heap.size #[num 4] i64T:=by rw [← hwL]; exact Blk.new w5 _ _
 have hcL:Chg [] w5 wL:=by rw [← hwL]; exact (Chg.refl _ _).alloc _
 have h2L:Chg [] w2 wL:=H2K.out.then (hc5.then hcL)
 have hs5 : w2.heap.size≤w5.heap.size:=(H2K.out.then hc5).size
 have hsL:=hbL.lt
 have HWC:=Lib.hid (show Calls Tryz.prog 31 #[ptr wF.heap.size,.string ⟨#[109]⟩,.string ⟨#[102]⟩,.slice (some ⟨w5.heap.size,0,none⟩) 1 1,num 100] wL _ from
  wcall_any 30 (q:=[109]) (n:=[102]) (args:=[4]) (fuel:=100) (a:=some ⟨w5.heap.size,0,none⟩) (c:=1) (HWAT.out.kept h2L (by simp)) (Ga:=fun x=>x=w5.heap.size) ⟨fun _=>⟨_,0,rfl,fun i x hx=>by rw [Nat.zero_add]; exact hbL.cell i x (by simpa using hx)⟩,fun _ p hp=>by cases hp; rfl⟩ (fun x hx=>⟨by omega,fun ho=>by
   rcases ho with e | e
   ·have:=HSW.out; have:=H02.out.size; have:=HWAT.out.lt _ (.inl (.inl rfl)); omega
   ·omega⟩) (by decide) (by decide) HC1.out)
 have hbe:=HBK.out.kept (hc5.then hcL) (by simp)
 have HBE:=Lib.hid hbe; have HL2:=Lib.hid h2L
 clear hc5 hbL hcL h2L hs5 hsL hbe
 go_wp2_with fail
 refine HWC.out.mono ?_; rintro _ w9 ⟨ve,vo,rfl,hev,hvo,hwat,hch⟩
 obtain ⟨ov,rfl,hov,_⟩:=hev
 obtain ⟨fa,fc,rfl⟩:=slice_of_owns hov
 simp only [ErrV] at hvo
 subst hvo
 clear hwL
 have hbe9:Blk w9 w2.heap.size #[num 1,.slice ea 1 ec] 43:=by
  obtain ⟨Z,hz,hZ⟩:=hch
  refine HBE.out.kept hz (fun hm=>?_)
  rcases hZ _ hm with e | e
  ·have:=HSW.out; have:=HWAT.out.lt _ (.inl (.inl rfl)); omega
  ·omega
 have i0:=hbe9.cell 0 _ rfl; have i1:=hbe9.cell 1 _ rfl; have j0:=hbe9.frozen 0; have j1:=hbe9.frozen 1
 obtain ⟨wS,hwS,hbS,hcS⟩:=setE 1 (.slice fa out.length fc) hbe9
 have k0:=hbS.cell 0 _ rfl; have k1:=hbS.cell 1 _ rfl
 have HFIN:=Lib.hid (show Chg [] w wS from (hch.new (H02.out.then HL2.out) (fun x hx=>by
  rcases hx with e | e
  ·have:=HSW.out; omega
  ·have:=HSW.out; omega)).trans hcS (fun x hx=>.inr (by simp at hx; have:=H02.out.size; omega)))
 clear hbe9 hbS hcS hov hwat hch
 simp only
 go_wp2_with fail
 go_ret
 exact ⟨rfl,HFIN.out⟩
end Go.Proofs.YtechofppmnnomaaGreatDoor
namespace Go.Mq.Run
open Go Go.RowKit Go.Mq Go.Mq.Tree
abbrev I64 (n:Int):Prop:=-9223372036854775808≤n∧n≤9223372036854775807
theorem wr_in {n:Int} (h:I64 n) : wr n=n:=by unfold wr wrap64; omega
theorem wr_add (x r:Int) : wr (wr x + r)=wr (x + r):=by unfold wr wrap64; omega
theorem both_add (a b:Int) : both [43] a b=some (wr (a + b)):=rfl
theorem both_sub (a b:Int) : both [45] a b=some (wr (a - b)):=rfl
theorem both_mul (a b:Int) : both [42] a b=some (wr (a * b)):=rfl
theorem add_sub {a b:Int} (h:I64 a) : wr (wr (a + b) - b)=a:=by unfold I64 at h; unfold wr wrap64; omega
theorem tmod_facts {a b:Int} (hb : b≠0) : (a.tmod b).natAbs < b.natAbs∧(0≤a→0≤a.tmod b)∧(a < 0→a.tmod b≤0):=by
 refine ⟨by rw [Int.natAbs_tmod]; exact Nat.mod_lt _ (by omega),fun h=>Int.tmod_nonneg b h,fun h=>?_⟩
 have:=Int.tmod_nonneg b (a:=-a) (by omega)
 rw [Int.neg_tmod] at this
 omega
theorem div_law {a b:Int} (ha:I64 a) (hb:I64 b) (hb0 : b≠0) : ∃ q r,both [100,105,118] a b=some q∧both [109,111,100] a b=some r∧wr (wr (q * b) + r)=a∧I64 r∧(r=0∨r≠0∧decide (r < 0)=decide (b < 0)∧(0 < b→r < b)∧(b < 0→b < r)):=by
 obtain ⟨h1,h2,h3⟩:=tmod_facts (a:=a) hb0
 have h4:=Int.mul_tdiv_add_tmod a b
 have h5:=Int.natAbs_tdiv a b
 obtain ⟨t,ht⟩ : ∃ t,t=a.tdiv b:=⟨_,rfl⟩
 obtain ⟨r,hr⟩ : ∃ r,r=a.tmod b:=⟨_,rfl⟩
 have hd : both [100,105,118] a b=some (if ((r != 0) && !(decide (r < 0) == decide (b < 0)))=true then wr (wr t - 1) else wr t):=by
  rw [ht,hr]; show (if b=0 then none else _)=_; rw [if_neg hb0]; rfl
 have hm : both [109,111,100] a b=some (if ((r != 0) && !(decide (r < 0) == decide (b < 0)))=true then wr (r + b) else r):=by
  rw [hr]; show (if b=0 then none else _)=_; rw [if_neg hb0]; rfl
 rw [hd,hm]
 rw [← ht,← hr] at h4
 rw [← hr] at h1 h2 h3
 rw [← ht] at h5
 clear hd hm ht hr
 have hna : a.natAbs≤9223372036854775808:=by unfold I64 at ha; omega
 have hmul : t * b=b * t:=Int.mul_comm _ _
 by_cases hr0 : r=0
 ·subst hr0
  refine ⟨_,_,rfl,rfl,?_,⟨by simp,by simp⟩,.inl (by simp)⟩
  simp only [bne_self_eq_false,Bool.false_and,Bool.false_eq_true,if_false]
  by_cases htl : t≤9223372036854775807
  ·have hle : t.natAbs≤a.natAbs:=by rw [h5]; exact Nat.div_le_self _ _
   rw [wr_in (n:=t) ⟨by omega,htl⟩,hmul,wr_add]
   rw [h4]; exact wr_in ha
  ·have hle : t.natAbs≤a.natAbs:=by rw [h5]; exact Nat.div_le_self _ _
   have ht : t=9223372036854775808:=by omega
   subst ht
   have hb1 : b = -1:=by unfold I64 at ha; omega
   subst hb1
   have : a = -9223372036854775808:=by omega
   subst this
   decide +kernel
 ·have hb2 : 2≤b.natAbs:=by omega
  have hle : t.natAbs≤a.natAbs / 2:=by rw [h5]; exact Nat.div_le_div_left hb2 (by omega)
  have hle2 : t.natAbs≤4611686018427387904:=Nat.le_trans hle (by omega)
  clear hle h5
  have hti:I64 t:=⟨by omega,by omega⟩
  have hti1:I64 (t - 1):=⟨by omega,by omega⟩
  by_cases hadj : ((r != 0) && !(decide (r < 0) == decide (b < 0)))=true
  ·rw [if_pos hadj,if_pos hadj]
   have hs : (decide (r < 0) == decide (b < 0))=false:=by
    simp only [Bool.and_eq_true,Bool.not_eq_true'] at hadj
    exact hadj.2
   have hsg : (r < 0∧0 < b)∨(0 < r∧b < 0):=by
    by_cases e1 : r < 0 <;> by_cases e2 : b < 0
    ·simp [e1,e2] at hs
    ·exact .inl ⟨e1,by omega⟩
    ·exact .inr ⟨by omega,e2⟩
    ·simp [e1,e2] at hs
   have hri:I64 (r + b):=by unfold I64 at ha hb ⊢; rcases hsg with h | h <;> omega
   refine ⟨_,_,rfl,rfl,?_,by rw [wr_in hri]; exact hri,.inr ?_⟩
   ·rw [wr_in hti,wr_in hti1,wr_in hri,wr_add]
    have : (t - 1) * b + (r + b)=a:=by rw [Int.sub_mul,hmul,Int.one_mul]; omega
    rw [this]; exact wr_in ha
   ·rw [wr_in hri]
    refine ⟨by omega,?_,by omega,by omega⟩
    rcases hsg with ⟨e1,e2⟩ | ⟨e1,e2⟩
    ·rw [decide_eq_false (by omega),decide_eq_false (by omega)]
    ·rw [decide_eq_true (by omega),decide_eq_true e2]
  ·rw [if_neg hadj,if_neg hadj]
   have hs : decide (r < 0)=decide (b < 0):=by
    have : (r != 0)=true:=by simpa using hr0
    rw [this] at hadj
    simpa using hadj
   refine ⟨_,_,rfl,rfl,?_,by unfold I64 at hb ⊢; omega,.inr ⟨hr0,hs,by omega,by omega⟩⟩
   rw [wr_in hti,hmul,wr_add,h4]
   exact wr_in ha
end Go.Mq.Run
namespace Go.Proofs.YtechofppmnnomaaGreatDoor
open Go Go.RowKit Go.Mq Go.Mq.Tree Go.Mq.Sym Go.Mq.Run
set_option maxRecDepth 100000
set_option maxHeartbeats 4000000
def tw (op:Nm) (a b:Int):Int:=match both op a b with
 | some n=>n
 | none=>-99
theorem two_any (op:Nm) (a b:Int) (w:World):Calls Tryz.prog 10 #[str op,num a,num b] w (fun e w'=>e = .returned (num (tw op a b))∧Chg [] w w'):=by
 have HB:=Lib.hid (both_any op a b w)
 unfold tw
 cases hb : both op a b with
 | none=>
  rw [hb] at HB
  clear hb
  go_enter Tryz.func10,Tryz.ntmps10
  go_wp2_with fail
  refine HB.out.mono ?_; rintro _ w1 ⟨hbo,hc⟩
  simp only [BothOut] at hbo
  subst hbo
  go_wp2_with fail
  go_ret
  exact ⟨rfl,hc⟩
 | some n=>
  rw [hb] at HB
  clear hb
  go_enter Tryz.func10,Tryz.ntmps10
  go_wp2_with fail
  refine HB.out.mono ?_; rintro _ w1 ⟨hbo,hc⟩
  simp only [BothOut] at hbo
  subst hbo
  go_wp2_with fail
  go_ret
  exact ⟨rfl,hc⟩
theorem tw_of {op:Nm} {a b n:Int} (h : both op a b=some n) (w:World):Calls Tryz.prog 10 #[str op,num a,num b] w (fun e w'=>e = .returned (num n)∧Chg [] w w'):=by
 have:=two_any op a b w
 unfold tw at this
 rw [h] at this
 exact this
theorem both_lt (a b p t:Int) (w:World) (K:World→Prop)
  (caddab : ∀ w:World,Calls Tryz.prog 10 #[.string ⟨#[43]⟩,num a,num b] w (fun e w'=>e = .returned (num p)∧Chg [] w w'))
  (csubpb : ∀ w:World,Calls Tryz.prog 10 #[.string ⟨#[45]⟩,num p,num b] w (fun e w'=>e = .returned (num a)∧Chg [] w w'))
  (caddba : ∀ w:World,Calls Tryz.prog 10 #[.string ⟨#[43]⟩,num b,num a] w (fun e w'=>e = .returned (num p)∧Chg [] w w'))
  (cmulab : ∀ w:World,Calls Tryz.prog 10 #[.string ⟨#[42]⟩,num a,num b] w (fun e w'=>e = .returned (num t)∧Chg [] w w'))
  (cmulba : ∀ w:World,Calls Tryz.prog 10 #[.string ⟨#[42]⟩,num b,num a] w (fun e w'=>e = .returned (num t)∧Chg [] w w'))
  (cltab : ∀ w:World,Calls Tryz.prog 10 #[.string ⟨#[60]⟩,num a,num b] w (fun e w'=>e = .returned (num 1)∧Chg [] w w'))
  (ceqab : ∀ w:World,Calls Tryz.prog 10 #[.string ⟨#[61]⟩,num a,num b] w (fun e w'=>e = .returned (num 0)∧Chg [] w w'))
  (cgtab : ∀ w:World,Calls Tryz.prog 10 #[.string ⟨#[62]⟩,num a,num b] w (fun e w'=>e = .returned (num 0)∧Chg [] w w'))
  (cleab : ∀ w:World,Calls Tryz.prog 10 #[.string ⟨#[60,61]⟩,num a,num b] w (fun e w'=>e = .returned (num 1)∧Chg [] w w'))
  (cgeab : ∀ w:World,Calls Tryz.prog 10 #[.string ⟨#[62,61]⟩,num a,num b] w (fun e w'=>e = .returned (num 0)∧Chg [] w w'))
  (cneab : ∀ w:World,Calls Tryz.prog 10 #[.string ⟨#[35]⟩,num a,num b] w (fun e w'=>e = .returned (num 1)∧Chg [] w w'))
  (hran:Calls Tryz.prog 9 #[] w (Holds w)) (h0 : b=0→(∀ w:World,Calls Tryz.prog 11 #[.string ⟨#[100,105,118]⟩,num a,num b] w (fun e w'=>e = .returned (.tuple #[num 0,.bool false])∧Chg [] w w')) ∧ ∀ w:World,Calls Tryz.prog 11 #[.string ⟨#[109,111,100]⟩,num a,num b] w (fun e w'=>e = .returned (.tuple #[num 0,.bool false])∧Chg [] w w'))
  (h1 : b≠0 → ∃ q r:Int,(∀ w:World,Calls Tryz.prog 11 #[.string ⟨#[100,105,118]⟩,num a,num b] w (fun e w'=>e = .returned (.tuple #[num q,.bool true])∧Chg [] w w'))∧(∀ w:World,Calls Tryz.prog 11 #[.string ⟨#[109,111,100]⟩,num a,num b] w (fun e w'=>e = .returned (.tuple #[num r,.bool true])∧Chg [] w w'))∧wr (wr (q * b) + r)=a∧(r=0∨r≠0∧decide (r < 0)=decide (b < 0)∧(0 < b→r < b)∧(b < 0→b < r))) :
  Calls Tryz.prog 3 #[num a,num b] w (Holds w):=by
 have HRAN:=Lib.hid hran; have H0:=Lib.hid h0; have H1:=Lib.hid h1
 have CADDAB:=Lib.hid caddab
 have CSUBPB:=Lib.hid csubpb
 have CADDBA:=Lib.hid caddba
 have CMULAB:=Lib.hid cmulab
 have CMULBA:=Lib.hid cmulba
 have CLTAB:=Lib.hid cltab
 have CEQAB:=Lib.hid ceqab
 have CGTAB:=Lib.hid cgtab
 have CLEAB:=Lib.hid cleab
 have CGEAB:=Lib.hid cgeab
 have CNEAB:=Lib.hid cneab
 clear hran h0 h1 caddab csubpb caddba cmulab cmulba cltab ceqab cgtab cleab cgeab cneab
 go_enter Tryz.func3,Tryz.ntmps3
 go_wp2_with fail
 refine HRAN.out.mono ?_; rintro _ w0 ⟨rfl,hc⟩
 have HC:=Lib.hid hc; clear hc
 go_wp2_with fail
 refine (CADDAB.out w0).mono ?_; rintro _ w1 ⟨rfl,hc⟩
 have HC:=Lib.hid (HC.out.then hc); clear hc
 go_wp2_with fail
 refine (CSUBPB.out w1).mono ?_; rintro _ w2 ⟨rfl,hc⟩
 have HC:=Lib.hid (HC.out.then hc); clear hc
 go_wp2_with fail
 refine (CADDAB.out w2).mono ?_; rintro _ w3 ⟨rfl,hc⟩
 have HC:=Lib.hid (HC.out.then hc); clear hc
 go_wp2_with fail
 refine (CADDBA.out w3).mono ?_; rintro _ w4 ⟨rfl,hc⟩
 have HC:=Lib.hid (HC.out.then hc); clear hc
 go_wp2_with fail
 refine (CMULAB.out w4).mono ?_; rintro _ w5 ⟨rfl,hc⟩
 have HC:=Lib.hid (HC.out.then hc); clear hc
 go_wp2_with fail
 refine (CMULBA.out w5).mono ?_; rintro _ w6 ⟨rfl,hc⟩
 have HC:=Lib.hid (HC.out.then hc); clear hc
 go_wp2_with fail
 refine (CLTAB.out w6).mono ?_; rintro _ w7 ⟨rfl,hc⟩
 have HC:=Lib.hid (HC.out.then hc); clear hc
 go_wp2_with fail
 refine (CEQAB.out w7).mono ?_; rintro _ w8 ⟨rfl,hc⟩
 have HC:=Lib.hid (HC.out.then hc); clear hc
 go_wp2_with fail
 refine (CGTAB.out w8).mono ?_; rintro _ w9 ⟨rfl,hc⟩
 have HC:=Lib.hid (HC.out.then hc); clear hc
 go_wp2_with fail
 refine (CLEAB.out w9).mono ?_; rintro _ w10 ⟨rfl,hc⟩
 have HC:=Lib.hid (HC.out.then hc); clear hc
 go_wp2_with fail
 refine (CGTAB.out w10).mono ?_; rintro _ w11 ⟨rfl,hc⟩
 have HC:=Lib.hid (HC.out.then hc); clear hc
 go_wp2_with fail
 refine (CGEAB.out w11).mono ?_; rintro _ w12 ⟨rfl,hc⟩
 have HC:=Lib.hid (HC.out.then hc); clear hc
 go_wp2_with fail
 refine (CLTAB.out w12).mono ?_; rintro _ w13 ⟨rfl,hc⟩
 have HC:=Lib.hid (HC.out.then hc); clear hc
 go_wp2_with fail
 refine (CNEAB.out w13).mono ?_; rintro _ w14 ⟨rfl,hc⟩
 have HC:=Lib.hid (HC.out.then hc); clear hc
 go_wp2_with fail
 refine (CEQAB.out w14).mono ?_; rintro _ w15 ⟨rfl,hc⟩
 have HC:=Lib.hid (HC.out.then hc); clear hc
 by_cases hb : b=0
 ·obtain ⟨hd,hm⟩:=H0.out hb
  subst hb
  have HD:=Lib.hid hd; have HM:=Lib.hid hm
  clear hd hm
  go_wp2_with fail
  refine (HD.out w15).mono ?_; rintro _ w16 ⟨rfl,hc⟩
  have HC:=Lib.hid (HC.out.then hc); clear hc
  go_wp2_with fail
  refine (HM.out w16).mono ?_; rintro _ w17 ⟨rfl,hc⟩
  have HC:=Lib.hid (HC.out.then hc); clear hc
  go_wp2_with fail
  go_ret
  exact ⟨rfl,HC.out⟩
 ·obtain ⟨q,r,hd,hm,hqr,hr⟩:=H1.out hb
  have HD:=Lib.hid hd; have HM:=Lib.hid hm; have HQR:=Lib.hid hqr; have HR:=Lib.hid hr
  clear hd hm hqr hr
  go_wp2_with fail
  refine (HD.out w15).mono ?_; rintro _ w16 ⟨rfl,hc⟩
  have HC:=Lib.hid (HC.out.then hc); clear hc
  go_wp2_with fail
  refine (HM.out w16).mono ?_; rintro _ w17 ⟨rfl,hc⟩
  have HC:=Lib.hid (HC.out.then hc); clear hc
  have hqr:=HQR.out
  rcases HR.out with hr0 | ⟨hr0,hsg,hp,hn⟩
  ·subst hr0
   have hqr' : wr (wr (q * b))=a:=by simpa using hqr
   go_wp2_with fail
   all_goals go_ret
   all_goals exact ⟨rfl,HC.out⟩
  ·have hr1 : (r == 0)=false:=by simpa using hr0
   rcases Int.lt_or_gt_of_ne hb with hlt | hgt
   ·have hn:=hn hlt
    have hrl : r < 0:=by simpa [hlt] using hsg
    have d1 : decide (b < 0)=true:=decide_eq_true hlt
    have d2 : decide (r < 0)=true:=decide_eq_true hrl
    have d3 : decide (0 < b)=false:=decide_eq_false (by omega)
    have d4 : decide (b < r)=true:=decide_eq_true hn
    have hnb : ¬ 0 < b:=by omega
    clear hp hsg
    go_wp2_with fail
    all_goals go_ret
    all_goals exact ⟨rfl,HC.out⟩
   ·have hp:=hp hgt
    have hnb : ¬ b < 0:=by omega
    have hrl : ¬ r < 0:=by simpa [hnb] using hsg
    have d1 : decide (b < 0)=false:=decide_eq_false hnb
    have d2 : decide (r < 0)=false:=decide_eq_false hrl
    have d3 : decide (0 < b)=true:=decide_eq_true hgt
    have d4 : decide (r < b)=true:=decide_eq_true hp
    clear hn hsg
    go_wp2_with fail
    all_goals go_ret
    all_goals exact ⟨rfl,HC.out⟩
theorem both_eq (a b p t:Int) (w:World) (K:World→Prop)
  (caddab : ∀ w:World,Calls Tryz.prog 10 #[.string ⟨#[43]⟩,num a,num b] w (fun e w'=>e = .returned (num p)∧Chg [] w w'))
  (csubpb : ∀ w:World,Calls Tryz.prog 10 #[.string ⟨#[45]⟩,num p,num b] w (fun e w'=>e = .returned (num a)∧Chg [] w w'))
  (caddba : ∀ w:World,Calls Tryz.prog 10 #[.string ⟨#[43]⟩,num b,num a] w (fun e w'=>e = .returned (num p)∧Chg [] w w'))
  (cmulab : ∀ w:World,Calls Tryz.prog 10 #[.string ⟨#[42]⟩,num a,num b] w (fun e w'=>e = .returned (num t)∧Chg [] w w'))
  (cmulba : ∀ w:World,Calls Tryz.prog 10 #[.string ⟨#[42]⟩,num b,num a] w (fun e w'=>e = .returned (num t)∧Chg [] w w'))
  (cltab : ∀ w:World,Calls Tryz.prog 10 #[.string ⟨#[60]⟩,num a,num b] w (fun e w'=>e = .returned (num 0)∧Chg [] w w'))
  (ceqab : ∀ w:World,Calls Tryz.prog 10 #[.string ⟨#[61]⟩,num a,num b] w (fun e w'=>e = .returned (num 1)∧Chg [] w w'))
  (cgtab : ∀ w:World,Calls Tryz.prog 10 #[.string ⟨#[62]⟩,num a,num b] w (fun e w'=>e = .returned (num 0)∧Chg [] w w'))
  (cleab : ∀ w:World,Calls Tryz.prog 10 #[.string ⟨#[60,61]⟩,num a,num b] w (fun e w'=>e = .returned (num 1)∧Chg [] w w'))
  (cgeab : ∀ w:World,Calls Tryz.prog 10 #[.string ⟨#[62,61]⟩,num a,num b] w (fun e w'=>e = .returned (num 1)∧Chg [] w w'))
  (cneab : ∀ w:World,Calls Tryz.prog 10 #[.string ⟨#[35]⟩,num a,num b] w (fun e w'=>e = .returned (num 0)∧Chg [] w w'))
  (hran:Calls Tryz.prog 9 #[] w (Holds w)) (h0 : b=0→(∀ w:World,Calls Tryz.prog 11 #[.string ⟨#[100,105,118]⟩,num a,num b] w (fun e w'=>e = .returned (.tuple #[num 0,.bool false])∧Chg [] w w')) ∧ ∀ w:World,Calls Tryz.prog 11 #[.string ⟨#[109,111,100]⟩,num a,num b] w (fun e w'=>e = .returned (.tuple #[num 0,.bool false])∧Chg [] w w'))
  (h1 : b≠0 → ∃ q r:Int,(∀ w:World,Calls Tryz.prog 11 #[.string ⟨#[100,105,118]⟩,num a,num b] w (fun e w'=>e = .returned (.tuple #[num q,.bool true])∧Chg [] w w'))∧(∀ w:World,Calls Tryz.prog 11 #[.string ⟨#[109,111,100]⟩,num a,num b] w (fun e w'=>e = .returned (.tuple #[num r,.bool true])∧Chg [] w w'))∧wr (wr (q * b) + r)=a∧(r=0∨r≠0∧decide (r < 0)=decide (b < 0)∧(0 < b→r < b)∧(b < 0→b < r))) :
  Calls Tryz.prog 3 #[num a,num b] w (Holds w):=by
 have HRAN:=Lib.hid hran; have H0:=Lib.hid h0; have H1:=Lib.hid h1
 have CADDAB:=Lib.hid caddab
 have CSUBPB:=Lib.hid csubpb
 have CADDBA:=Lib.hid caddba
 have CMULAB:=Lib.hid cmulab
 have CMULBA:=Lib.hid cmulba
 have CLTAB:=Lib.hid cltab
 have CEQAB:=Lib.hid ceqab
 have CGTAB:=Lib.hid cgtab
 have CLEAB:=Lib.hid cleab
 have CGEAB:=Lib.hid cgeab
 have CNEAB:=Lib.hid cneab
 clear hran h0 h1 caddab csubpb caddba cmulab cmulba cltab ceqab cgtab cleab cgeab cneab
 go_enter Tryz.func3,Tryz.ntmps3
 go_wp2_with fail
 refine HRAN.out.mono ?_; rintro _ w0 ⟨rfl,hc⟩
 have HC:=Lib.hid hc; clear hc
 go_wp2_with fail
 refine (CADDAB.out w0).mono ?_; rintro _ w1 ⟨rfl,hc⟩
 have HC:=Lib.hid (HC.out.then hc); clear hc
 go_wp2_with fail
 refine (CSUBPB.out w1).mono ?_; rintro _ w2 ⟨rfl,hc⟩
 have HC:=Lib.hid (HC.out.then hc); clear hc
 go_wp2_with fail
 refine (CADDAB.out w2).mono ?_; rintro _ w3 ⟨rfl,hc⟩
 have HC:=Lib.hid (HC.out.then hc); clear hc
 go_wp2_with fail
 refine (CADDBA.out w3).mono ?_; rintro _ w4 ⟨rfl,hc⟩
 have HC:=Lib.hid (HC.out.then hc); clear hc
 go_wp2_with fail
 refine (CMULAB.out w4).mono ?_; rintro _ w5 ⟨rfl,hc⟩
 have HC:=Lib.hid (HC.out.then hc); clear hc
 go_wp2_with fail
 refine (CMULBA.out w5).mono ?_; rintro _ w6 ⟨rfl,hc⟩
 have HC:=Lib.hid (HC.out.then hc); clear hc
 go_wp2_with fail
 refine (CLTAB.out w6).mono ?_; rintro _ w7 ⟨rfl,hc⟩
 have HC:=Lib.hid (HC.out.then hc); clear hc
 go_wp2_with fail
 refine (CEQAB.out w7).mono ?_; rintro _ w8 ⟨rfl,hc⟩
 have HC:=Lib.hid (HC.out.then hc); clear hc
 go_wp2_with fail
 refine (CGTAB.out w8).mono ?_; rintro _ w9 ⟨rfl,hc⟩
 have HC:=Lib.hid (HC.out.then hc); clear hc
 go_wp2_with fail
 refine (CLEAB.out w9).mono ?_; rintro _ w10 ⟨rfl,hc⟩
 have HC:=Lib.hid (HC.out.then hc); clear hc
 go_wp2_with fail
 refine (CGTAB.out w10).mono ?_; rintro _ w11 ⟨rfl,hc⟩
 have HC:=Lib.hid (HC.out.then hc); clear hc
 go_wp2_with fail
 refine (CGEAB.out w11).mono ?_; rintro _ w12 ⟨rfl,hc⟩
 have HC:=Lib.hid (HC.out.then hc); clear hc
 go_wp2_with fail
 refine (CLTAB.out w12).mono ?_; rintro _ w13 ⟨rfl,hc⟩
 have HC:=Lib.hid (HC.out.then hc); clear hc
 go_wp2_with fail
 refine (CNEAB.out w13).mono ?_; rintro _ w14 ⟨rfl,hc⟩
 have HC:=Lib.hid (HC.out.then hc); clear hc
 go_wp2_with fail
 refine (CEQAB.out w14).mono ?_; rintro _ w15 ⟨rfl,hc⟩
 have HC:=Lib.hid (HC.out.then hc); clear hc
 by_cases hb : b=0
 ·obtain ⟨hd,hm⟩:=H0.out hb
  subst hb
  have HD:=Lib.hid hd; have HM:=Lib.hid hm
  clear hd hm
  go_wp2_with fail
  refine (HD.out w15).mono ?_; rintro _ w16 ⟨rfl,hc⟩
  have HC:=Lib.hid (HC.out.then hc); clear hc
  go_wp2_with fail
  refine (HM.out w16).mono ?_; rintro _ w17 ⟨rfl,hc⟩
  have HC:=Lib.hid (HC.out.then hc); clear hc
  go_wp2_with fail
  go_ret
  exact ⟨rfl,HC.out⟩
 ·obtain ⟨q,r,hd,hm,hqr,hr⟩:=H1.out hb
  have HD:=Lib.hid hd; have HM:=Lib.hid hm; have HQR:=Lib.hid hqr; have HR:=Lib.hid hr
  clear hd hm hqr hr
  go_wp2_with fail
  refine (HD.out w15).mono ?_; rintro _ w16 ⟨rfl,hc⟩
  have HC:=Lib.hid (HC.out.then hc); clear hc
  go_wp2_with fail
  refine (HM.out w16).mono ?_; rintro _ w17 ⟨rfl,hc⟩
  have HC:=Lib.hid (HC.out.then hc); clear hc
  have hqr:=HQR.out
  rcases HR.out with hr0 | ⟨hr0,hsg,hp,hn⟩
  ·subst hr0
   have hqr' : wr (wr (q * b))=a:=by simpa using hqr
   go_wp2_with fail
   all_goals go_ret
   all_goals exact ⟨rfl,HC.out⟩
  ·have hr1 : (r == 0)=false:=by simpa using hr0
   rcases Int.lt_or_gt_of_ne hb with hlt | hgt
   ·have hn:=hn hlt
    have hrl : r < 0:=by simpa [hlt] using hsg
    have d1 : decide (b < 0)=true:=decide_eq_true hlt
    have d2 : decide (r < 0)=true:=decide_eq_true hrl
    have d3 : decide (0 < b)=false:=decide_eq_false (by omega)
    have d4 : decide (b < r)=true:=decide_eq_true hn
    have hnb : ¬ 0 < b:=by omega
    clear hp hsg
    go_wp2_with fail
    all_goals go_ret
    all_goals exact ⟨rfl,HC.out⟩
   ·have hp:=hp hgt
    have hnb : ¬ b < 0:=by omega
    have hrl : ¬ r < 0:=by simpa [hnb] using hsg
    have d1 : decide (b < 0)=false:=decide_eq_false hnb
    have d2 : decide (r < 0)=false:=decide_eq_false hrl
    have d3 : decide (0 < b)=true:=decide_eq_true hgt
    have d4 : decide (r < b)=true:=decide_eq_true hp
    clear hn hsg
    go_wp2_with fail
    all_goals go_ret
    all_goals exact ⟨rfl,HC.out⟩
theorem both_gt (a b p t:Int) (w:World) (K:World→Prop)
  (caddab : ∀ w:World,Calls Tryz.prog 10 #[.string ⟨#[43]⟩,num a,num b] w (fun e w'=>e = .returned (num p)∧Chg [] w w'))
  (csubpb : ∀ w:World,Calls Tryz.prog 10 #[.string ⟨#[45]⟩,num p,num b] w (fun e w'=>e = .returned (num a)∧Chg [] w w'))
  (caddba : ∀ w:World,Calls Tryz.prog 10 #[.string ⟨#[43]⟩,num b,num a] w (fun e w'=>e = .returned (num p)∧Chg [] w w'))
  (cmulab : ∀ w:World,Calls Tryz.prog 10 #[.string ⟨#[42]⟩,num a,num b] w (fun e w'=>e = .returned (num t)∧Chg [] w w'))
  (cmulba : ∀ w:World,Calls Tryz.prog 10 #[.string ⟨#[42]⟩,num b,num a] w (fun e w'=>e = .returned (num t)∧Chg [] w w'))
  (cltab : ∀ w:World,Calls Tryz.prog 10 #[.string ⟨#[60]⟩,num a,num b] w (fun e w'=>e = .returned (num 0)∧Chg [] w w'))
  (ceqab : ∀ w:World,Calls Tryz.prog 10 #[.string ⟨#[61]⟩,num a,num b] w (fun e w'=>e = .returned (num 0)∧Chg [] w w'))
  (cgtab : ∀ w:World,Calls Tryz.prog 10 #[.string ⟨#[62]⟩,num a,num b] w (fun e w'=>e = .returned (num 1)∧Chg [] w w'))
  (cleab : ∀ w:World,Calls Tryz.prog 10 #[.string ⟨#[60,61]⟩,num a,num b] w (fun e w'=>e = .returned (num 0)∧Chg [] w w'))
  (cgeab : ∀ w:World,Calls Tryz.prog 10 #[.string ⟨#[62,61]⟩,num a,num b] w (fun e w'=>e = .returned (num 1)∧Chg [] w w'))
  (cneab : ∀ w:World,Calls Tryz.prog 10 #[.string ⟨#[35]⟩,num a,num b] w (fun e w'=>e = .returned (num 1)∧Chg [] w w'))
  (hran:Calls Tryz.prog 9 #[] w (Holds w)) (h0 : b=0→(∀ w:World,Calls Tryz.prog 11 #[.string ⟨#[100,105,118]⟩,num a,num b] w (fun e w'=>e = .returned (.tuple #[num 0,.bool false])∧Chg [] w w')) ∧ ∀ w:World,Calls Tryz.prog 11 #[.string ⟨#[109,111,100]⟩,num a,num b] w (fun e w'=>e = .returned (.tuple #[num 0,.bool false])∧Chg [] w w'))
  (h1 : b≠0 → ∃ q r:Int,(∀ w:World,Calls Tryz.prog 11 #[.string ⟨#[100,105,118]⟩,num a,num b] w (fun e w'=>e = .returned (.tuple #[num q,.bool true])∧Chg [] w w'))∧(∀ w:World,Calls Tryz.prog 11 #[.string ⟨#[109,111,100]⟩,num a,num b] w (fun e w'=>e = .returned (.tuple #[num r,.bool true])∧Chg [] w w'))∧wr (wr (q * b) + r)=a∧(r=0∨r≠0∧decide (r < 0)=decide (b < 0)∧(0 < b→r < b)∧(b < 0→b < r))) :
  Calls Tryz.prog 3 #[num a,num b] w (Holds w):=by
 have HRAN:=Lib.hid hran; have H0:=Lib.hid h0; have H1:=Lib.hid h1
 have CADDAB:=Lib.hid caddab
 have CSUBPB:=Lib.hid csubpb
 have CADDBA:=Lib.hid caddba
 have CMULAB:=Lib.hid cmulab
 have CMULBA:=Lib.hid cmulba
 have CLTAB:=Lib.hid cltab
 have CEQAB:=Lib.hid ceqab
 have CGTAB:=Lib.hid cgtab
 have CLEAB:=Lib.hid cleab
 have CGEAB:=Lib.hid cgeab
 have CNEAB:=Lib.hid cneab
 clear hran h0 h1 caddab csubpb caddba cmulab cmulba cltab ceqab cgtab cleab cgeab cneab
 go_enter Tryz.func3,Tryz.ntmps3
 go_wp2_with fail
 refine HRAN.out.mono ?_; rintro _ w0 ⟨rfl,hc⟩
 have HC:=Lib.hid hc; clear hc
 go_wp2_with fail
 refine (CADDAB.out w0).mono ?_; rintro _ w1 ⟨rfl,hc⟩
 have HC:=Lib.hid (HC.out.then hc); clear hc
 go_wp2_with fail
 refine (CSUBPB.out w1).mono ?_; rintro _ w2 ⟨rfl,hc⟩
 have HC:=Lib.hid (HC.out.then hc); clear hc
 go_wp2_with fail
 refine (CADDAB.out w2).mono ?_; rintro _ w3 ⟨rfl,hc⟩
 have HC:=Lib.hid (HC.out.then hc); clear hc
 go_wp2_with fail
 refine (CADDBA.out w3).mono ?_; rintro _ w4 ⟨rfl,hc⟩
 have HC:=Lib.hid (HC.out.then hc); clear hc
 go_wp2_with fail
 refine (CMULAB.out w4).mono ?_; rintro _ w5 ⟨rfl,hc⟩
 have HC:=Lib.hid (HC.out.then hc); clear hc
 go_wp2_with fail
 refine (CMULBA.out w5).mono ?_; rintro _ w6 ⟨rfl,hc⟩
 have HC:=Lib.hid (HC.out.then hc); clear hc
 go_wp2_with fail
 refine (CLTAB.out w6).mono ?_; rintro _ w7 ⟨rfl,hc⟩
 have HC:=Lib.hid (HC.out.then hc); clear hc
 go_wp2_with fail
 refine (CEQAB.out w7).mono ?_; rintro _ w8 ⟨rfl,hc⟩
 have HC:=Lib.hid (HC.out.then hc); clear hc
 go_wp2_with fail
 refine (CGTAB.out w8).mono ?_; rintro _ w9 ⟨rfl,hc⟩
 have HC:=Lib.hid (HC.out.then hc); clear hc
 go_wp2_with fail
 refine (CLEAB.out w9).mono ?_; rintro _ w10 ⟨rfl,hc⟩
 have HC:=Lib.hid (HC.out.then hc); clear hc
 go_wp2_with fail
 refine (CGTAB.out w10).mono ?_; rintro _ w11 ⟨rfl,hc⟩
 have HC:=Lib.hid (HC.out.then hc); clear hc
 go_wp2_with fail
 refine (CGEAB.out w11).mono ?_; rintro _ w12 ⟨rfl,hc⟩
 have HC:=Lib.hid (HC.out.then hc); clear hc
 go_wp2_with fail
 refine (CLTAB.out w12).mono ?_; rintro _ w13 ⟨rfl,hc⟩
 have HC:=Lib.hid (HC.out.then hc); clear hc
 go_wp2_with fail
 refine (CNEAB.out w13).mono ?_; rintro _ w14 ⟨rfl,hc⟩
 have HC:=Lib.hid (HC.out.then hc); clear hc
 go_wp2_with fail
 refine (CEQAB.out w14).mono ?_; rintro _ w15 ⟨rfl,hc⟩
 have HC:=Lib.hid (HC.out.then hc); clear hc
 by_cases hb : b=0
 ·obtain ⟨hd,hm⟩:=H0.out hb
  subst hb
  have HD:=Lib.hid hd; have HM:=Lib.hid hm
  clear hd hm
  go_wp2_with fail
  refine (HD.out w15).mono ?_; rintro _ w16 ⟨rfl,hc⟩
  have HC:=Lib.hid (HC.out.then hc); clear hc
  go_wp2_with fail
  refine (HM.out w16).mono ?_; rintro _ w17 ⟨rfl,hc⟩
  have HC:=Lib.hid (HC.out.then hc); clear hc
  go_wp2_with fail
  go_ret
  exact ⟨rfl,HC.out⟩
 ·obtain ⟨q,r,hd,hm,hqr,hr⟩:=H1.out hb
  have HD:=Lib.hid hd; have HM:=Lib.hid hm; have HQR:=Lib.hid hqr; have HR:=Lib.hid hr
  clear hd hm hqr hr
  go_wp2_with fail
  refine (HD.out w15).mono ?_; rintro _ w16 ⟨rfl,hc⟩
  have HC:=Lib.hid (HC.out.then hc); clear hc
  go_wp2_with fail
  refine (HM.out w16).mono ?_; rintro _ w17 ⟨rfl,hc⟩
  have HC:=Lib.hid (HC.out.then hc); clear hc
  have hqr:=HQR.out
  rcases HR.out with hr0 | ⟨hr0,hsg,hp,hn⟩
  ·subst hr0
   have hqr' : wr (wr (q * b))=a:=by simpa using hqr
   go_wp2_with fail
   all_goals go_ret
   all_goals exact ⟨rfl,HC.out⟩
  ·have hr1 : (r == 0)=false:=by simpa using hr0
   rcases Int.lt_or_gt_of_ne hb with hlt | hgt
   ·have hn:=hn hlt
    have hrl : r < 0:=by simpa [hlt] using hsg
    have d1 : decide (b < 0)=true:=decide_eq_true hlt
    have d2 : decide (r < 0)=true:=decide_eq_true hrl
    have d3 : decide (0 < b)=false:=decide_eq_false (by omega)
    have d4 : decide (b < r)=true:=decide_eq_true hn
    have hnb : ¬ 0 < b:=by omega
    clear hp hsg
    go_wp2_with fail
    all_goals go_ret
    all_goals exact ⟨rfl,HC.out⟩
   ·have hp:=hp hgt
    have hnb : ¬ b < 0:=by omega
    have hrl : ¬ r < 0:=by simpa [hnb] using hsg
    have d1 : decide (b < 0)=false:=decide_eq_false hnb
    have d2 : decide (r < 0)=false:=decide_eq_false hrl
    have d3 : decide (0 < b)=true:=decide_eq_true hgt
    have d4 : decide (r < b)=true:=decide_eq_true hp
    clear hn hsg
    go_wp2_with fail
    all_goals go_ret
    all_goals exact ⟨rfl,HC.out⟩
theorem runBoth_any (a b:Int) (ha:I64 a) (hb:I64 b) (w:World) (B:Nat) (hL:Laid w B):Calls Tryz.prog 3 #[num a,num b] w (Holds w):=by
 have hran:=ran_any w B hL
 have h0 : b=0→(∀ w:World,Calls Tryz.prog 11 #[.string ⟨#[100,105,118]⟩,num a,num b] w (fun e w'=>e = .returned (.tuple #[num 0,.bool false])∧Chg [] w w')) ∧ ∀ w:World,Calls Tryz.prog 11 #[.string ⟨#[109,111,100]⟩,num a,num b] w (fun e w'=>e = .returned (.tuple #[num 0,.bool false])∧Chg [] w w'):=fun e=>by
  subst e
  have e1 : both [100,105,118] a 0=none:=rfl
  have e2 : both [109,111,100] a 0=none:=rfl
  refine ⟨fun w=>?_,fun w=>?_⟩
  ·have:=both_any [100,105,118] a 0 w
   rw [e1] at this
   exact this
  ·have:=both_any [109,111,100] a 0 w
   rw [e2] at this
   exact this
 have h1 : b≠0 → ∃ q r:Int,(∀ w:World,Calls Tryz.prog 11 #[.string ⟨#[100,105,118]⟩,num a,num b] w (fun e w'=>e = .returned (.tuple #[num q,.bool true])∧Chg [] w w'))∧(∀ w:World,Calls Tryz.prog 11 #[.string ⟨#[109,111,100]⟩,num a,num b] w (fun e w'=>e = .returned (.tuple #[num r,.bool true])∧Chg [] w w'))∧wr (wr (q * b) + r)=a∧(r=0∨r≠0∧decide (r < 0)=decide (b < 0)∧(0 < b→r < b)∧(b < 0→b < r)):=fun e=>by
  obtain ⟨q,r,e1,e2,e3,_,e4⟩:=div_law ha hb e
  refine ⟨q,r,fun w=>?_,fun w=>?_,e3,e4⟩
  ·have:=both_any [100,105,118] a b w
   rw [e1] at this
   exact this
  ·have:=both_any [109,111,100] a b w
   rw [e2] at this
   exact this
 have hcm : wr (b + a)=wr (a + b):=by rw [Int.add_comm]
 have hmm : wr (b * a)=wr (a * b):=by rw [Int.mul_comm]
 have hsub : both [45] (wr (a + b)) b=some a:=by rw [both_sub,add_sub ha]
 have hadd : both [43] b a=some (wr (a + b)):=by rw [both_add,hcm]
 have hmul : both [42] b a=some (wr (a * b)):=by rw [both_mul,hmm]
 have f1 : both [60] a b=some (one (decide (a < b))):=rfl
 have f2 : both [61] a b=some (one (a == b)):=rfl
 have f3 : both [62] a b=some (one (decide (b < a))):=rfl
 have f4 : both [60,61] a b=some (one (decide (a≤b))):=rfl
 have f5 : both [62,61] a b=some (one (decide (b≤a))):=rfl
 have f6 : both [35] a b=some (one (a != b)):=rfl
 rcases Int.lt_trichotomy a b with h | h | h
 ·rw [decide_eq_true h] at f1
  rw [show (a == b)=false by simp; omega] at f2
  rw [decide_eq_false (by omega)] at f3
  rw [decide_eq_true (by omega)] at f4
  rw [decide_eq_false (by omega)] at f5
  rw [show (a != b)=true by simp; omega] at f6
  exact both_lt a b (wr (a + b)) (wr (a * b)) w (fun _=>True) (tw_of (both_add a b)) (tw_of hsub) (tw_of hadd) (tw_of (both_mul a b)) (tw_of hmul) (tw_of f1) (tw_of f2) (tw_of f3) (tw_of f4) (tw_of f5) (tw_of f6) hran h0 h1
 ·rw [decide_eq_false (by omega)] at f1
  rw [show (a == b)=true by simp; omega] at f2
  rw [decide_eq_false (by omega)] at f3
  rw [decide_eq_true (by omega)] at f4
  rw [decide_eq_true (by omega)] at f5
  rw [show (a != b)=false by simp; omega] at f6
  exact both_eq a b (wr (a + b)) (wr (a * b)) w (fun _=>True) (tw_of (both_add a b)) (tw_of hsub) (tw_of hadd) (tw_of (both_mul a b)) (tw_of hmul) (tw_of f1) (tw_of f2) (tw_of f3) (tw_of f4) (tw_of f5) (tw_of f6) hran h0 h1
 ·rw [decide_eq_false (by omega)] at f1
  rw [show (a == b)=false by simp; omega] at f2
  rw [decide_eq_true (by omega)] at f3
  rw [decide_eq_false (by omega)] at f4
  rw [decide_eq_true (by omega)] at f5
  rw [show (a != b)=true by simp; omega] at f6
  exact both_gt a b (wr (a + b)) (wr (a * b)) w (fun _=>True) (tw_of (both_add a b)) (tw_of hsub) (tw_of hadd) (tw_of (both_mul a b)) (tw_of hmul) (tw_of f1) (tw_of f2) (tw_of f3) (tw_of f4) (tw_of f5) (tw_of f6) hran h0 h1
end Go.Proofs.YtechofppmnnomaaGreatDoor
