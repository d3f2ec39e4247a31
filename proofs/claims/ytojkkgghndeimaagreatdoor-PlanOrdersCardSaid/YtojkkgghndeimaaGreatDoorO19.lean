/- Some texts in one. -/
import Derived.Test.YtojkkgghndeimaaGreatDoorO9
import Derived.Test.YtojkkgghndeimaaGreatDoorO18
namespace Go.Mq.Check
open Go Go.RowKit Go.Mq Go.Mq.Tree Go.Mq.Sym
abbrev Look:=Option (Nat × Nat)
structure Env where
 imports:List (List UInt8)
 seen:List UInt8→Option (List Sy)
 locals:List (List UInt8)
 vars:List Glob
 procs:List Proc
inductive Got where
 | is (s:Sy)
 | bad (e p:Nat)
def Env.find (c:Env) (p:Nat) (m n:List UInt8):Got:=
 if m≠[] then
  if m∉c.imports then .bad 5 p
  else match findS ((c.seen m).getD []) n with
   | none=>.bad 7 p
   | some k=>.is (((c.seen m).getD []).getD k Sy.none)
 else if n∈c.locals then .is ⟨n,0,-1⟩
 else match c.vars.find? fun g=>g.name == n with
  | some g=>.is ⟨n,g.len,-1⟩
  | none=>match c.procs.find? fun x=>x.name == n with
   | some x=>.is ⟨n,0,x.params.length⟩
   | none=>.bad 7 p
def argsN:E→Nat
 | .nil=>0
 | .cons _ r=>argsN r + 1
 | _=>1
def nameL (c:Env) (p:Nat) (m n:List UInt8) (f:Sy→Look):Look:=match c.find p m n with
 | .bad e q=>some (e,q)
 | .is s=>f s
def exprL (c:Env):E→Look
 | .num _ _=>none
 | .var p m n=>nameL c p m n fun s=>if 0≤s.args∨0 < s.len then some (1,p) else none
 | .item p m n i=>(nameL c p m n fun s=>if 0≤s.args∨¬ 0 < s.len then some (1,p) else none).or (exprL c i)
 | .un _ _ x=>exprL c x
 | .bin _ _ x y=>(exprL c x).or (exprL c y)
 | .app p m n l=>(nameL c p m n fun s=>if ¬ 0≤s.args then some (1,p) else if (argsN l:Int)≠s.args then some (2,p) else none).or (exprL c l)
 | .nil=>none
 | .cons x r=>(exprL c x).or (exprL c r)
def bodyL (c:Env):S→Look
 | .nil=>none
 | .set p n none v r=>((exprL c (.var p [] n)).or (exprL c v)).or (bodyL c r)
 | .set p n (some i) v r=>((exprL c (.item p [] n i)).or (exprL c v)).or (bodyL c r)
 | .ifs _ v t e r=>(((exprL c v).or (bodyL c t)).or (bodyL c e)).or (bodyL c r)
 | .whil _ v t r=>((exprL c v).or (bodyL c t)).or (bodyL c r)
 | .ret _ v r=>(exprL c v).or (bodyL c r)
 | .wri _ v r=>(exprL c v).or (bodyL c r)
 | .call _ v r=>(exprL c v).or (bodyL c r)
def onceL:List (List UInt8)→List (List UInt8 × Nat)→Look
 | _,[]=>none
 | had,(n,p) :: r=>if n∈had then some (9,p) else onceL (n :: had) r
def procL (m:Mod) (seen:List UInt8→Option (List Sy)) (x:Proc):Look:=
 (onceL [] ((x.params ++ x.vars).map fun n=>(n,x.pos))).or (bodyL ⟨m.imports,seen,x.params ++ x.vars,m.vars,m.procs⟩ x.body)
def procsL (m:Mod) (seen:List UInt8→Option (List Sy)):List Proc→Look
 | []=>none
 | x :: r=>(procL m seen x).or (procsL m seen r)
inductive Out where
 | fine
 | plain (e:Nat)
 | at_ (e p:Nat)
def Out.of:Look→Out
 | none=>.fine
 | some (e,p)=>.at_ e p
end Go.Mq.Check
namespace Go.Mq.Check
open Go Go.RowKit Go.Mq Go.Mq.Tree Go.Mq.Sym
end Go.Mq.Check
namespace Go.Mq.Check
open Go Go.RowKit Go.Mq Go.Mq.Tree Go.Mq.Sym
def FewE:E→Prop
 | .num _ _=>True
 | .var _ _ _=>True
 | .item _ _ _ i=>FewE i
 | .un _ _ x=>FewE x
 | .bin _ _ x y=>FewE x∧FewE y
 | .app _ _ _ l=>argsN l≤1000∧FewE l
 | .nil=>True
 | .cons x r=>FewE x∧FewE r
def FewS:S→Prop
 | .nil=>True
 | .set _ _ i v r=>(∀ x,i=some x→FewE x)∧FewE v∧FewS r
 | .ifs _ v t e r=>FewE v∧FewS t∧t.len≤1000∧FewS e∧e.len≤1000∧FewS r
 | .whil _ v t r=>FewE v∧FewS t∧t.len≤1000∧FewS r
 | .ret _ v r=>FewE v∧FewS r
 | .wri _ v r=>FewE v∧FewS r
 | .call _ v r=>FewE v∧FewS r
theorem qualK_pos (m n:List UInt8) : 1≤(qualK m n).length:=by
 rw [qualK]; split <;> simp
theorem withinK_le (lv:Nat) (x:E) (K:List (List UInt8)):K.length≤(withinK lv x K).length:=by
 rw [withinK]; split <;> simp; omega
theorem toks_pos {x:E} (h : x.isX) : 1≤(toks x).length:=by
 cases x with
 | num p n=>simp [toks]
 | var p m n=>exact qualK_pos m n
 | item p m n i=>simp [toks]; omega
 | un p op x=>simp [toks]
 | bin p op x y=>simp [toks]; omega
 | app p m n l=>simp [toks]; omega
 | nil=>exact h.elim
 | cons _ _=>exact h.elim
theorem toks_cons (x r:E) : (toks x).length + (toks r).length≤(toks (.cons x r)).length:=by
 cases r <;> simp [toks] <;> omega
theorem toks_more (x:E) {r:E} (_h : r.isL) : (toks x).length + argsN r≤(toks x).length + (toks r).length→1≤(toks x).length→argsN (.cons x r)≤(toks (.cons x r)).length:=by
 intro h1 h2
 have:=toks_cons x r
 simp only [argsN]
 omega
theorem args_le : ∀ {l:E},WF l→l.isL→argsN l≤(toks l).length
 | .nil,_,_=>by simp [argsN]
 | .cons x r,h,_=>by
  have h1:=args_le h.2.1 h.2.2
  exact toks_more x h.2.2 (by omega) (toks_pos h.1.2)
 | .num _ _,_,h=>h.elim
 | .var _ _ _,_,h=>h.elim
 | .item _ _ _ _,_,h=>h.elim
 | .un _ _ _,_,h=>h.elim
 | .bin _ _ _ _,_,h=>h.elim
 | .app _ _ _ _,_,h=>h.elim
theorem few_of {e:E} : WF e→(toks e).length≤1000→FewE e:=by
 induction e with
 | num p n=>exact fun _ _=>trivial
 | var p m n=>exact fun _ _=>trivial
 | item p m n i ih=>exact fun h k=>ih h.2.2.1 (by simp [toks] at k; omega)
 | un p op x ih=>exact fun h k=>ih h.2.1 (by have:=withinK_le 5 x (toks x); simp [toks] at k; omega)
 | bin p op x y ih1 ih2=>
   intro h k
   have h1:=withinK_le (opLevel op) x (toks x); have h2:=withinK_le (opLevel op + 1) y (toks y)
   simp [toks] at k
   exact ⟨ih1 h.2.1.1 (by omega),ih2 h.2.2.1 (by omega)⟩
 | app p m n l ih=>
   intro h k
   simp [toks] at k
   have:=args_le h.2.2.1 h.2.2.2
   exact ⟨by omega,ih h.2.2.1 (by omega)⟩
 | nil=>exact fun _ _=>trivial
 | cons x r ih1 ih2=>
   intro h k
   have:=toks_cons x r
   exact ⟨ih1 h.1.1 (by omega),ih2 h.2.1 (by omega)⟩
theorem indexK_le (x:E) : (toks x).length≤(indexK (some x)).length:=by simp [indexK]; omega
theorem few_stmts {s:S} : ∀ {d:Nat},WFS d s→(stmtK s).length≤1000→FewS s∧s.len≤(stmtK s).length:=by
 induction s with
 | nil=>exact fun _ _=>⟨trivial,by simp [S.len]⟩
 | set p n i v r ih=>
   intro d h k
   simp [stmtK] at k
   obtain ⟨a,b⟩:=ih h.2.2.2 (by omega)
   refine ⟨⟨fun x hx=>?_,few_of h.2.2.1.1.1 (by omega),a⟩,by simp [stmtK,S.len]; omega⟩
   subst hx
   have:=indexK_le x
   exact few_of (h.2.1 x rfl).1.1 (by omega)
 | ifs p v t e r ih1 ih2 ih3=>
   intro d h k
   have ke : (stmtK e).length≤(if e.isNil then [] else [101,108,115,101] :: stmtK e).length:=by
    cases e <;> simp [S.isNil,stmtK] <;> omega
   simp only [stmtK,List.length_cons,List.length_append] at k
   obtain ⟨a,b⟩:=ih1 h.2.1.1.2 (by omega)
   obtain ⟨a2,b2⟩:=ih2 h.2.1.2.2 (by omega)
   obtain ⟨a3,b3⟩:=ih3 h.2.2 (by omega)
   exact ⟨⟨few_of h.1.1.1 (by omega),a,by omega,a2,by omega,a3⟩,by simp only [stmtK,List.length_cons,List.length_append,S.len]; omega⟩
 | whil p v t r ih1 ih2=>
   intro d h k
   simp only [stmtK,List.length_cons,List.length_append] at k
   obtain ⟨a,b⟩:=ih1 h.2.1.2 (by omega)
   obtain ⟨a3,b3⟩:=ih2 h.2.2 (by omega)
   exact ⟨⟨few_of h.1.1.1 (by omega),a,by omega,a3⟩,by simp only [stmtK,List.length_cons,List.length_append,S.len]; omega⟩
 | ret p v r ih=>
   intro d h k
   simp only [stmtK,List.length_cons,List.length_append] at k
   obtain ⟨a,b⟩:=ih h.2 (by omega)
   exact ⟨⟨few_of h.1.1.1 (by omega),a⟩,by simp only [stmtK,List.length_cons,List.length_append,S.len]; omega⟩
 | wri p v r ih=>
   intro d h k
   simp only [stmtK,List.length_cons,List.length_append] at k
   obtain ⟨a,b⟩:=ih h.2 (by omega)
   exact ⟨⟨few_of h.1.1.1 (by omega),a⟩,by simp only [stmtK,List.length_cons,List.length_append,S.len]; omega⟩
 | call p v r ih=>
   intro d h k
   simp only [stmtK,List.length_cons,List.length_append] at k
   obtain ⟨a,b⟩:=ih h.2 (by omega)
   exact ⟨⟨few_of h.1.1.1.1 (by omega),a⟩,by simp only [stmtK,List.length_cons,List.length_append,S.len]; omega⟩
structure FewM (m:Mod):Prop where
 imports : m.imports.length≤1000
 vars : m.vars.length≤1000
 procs : m.procs.length≤1000
 params : ∀ x∈m.procs,x.params.length≤10∧x.vars.length≤10
 bodies : ∀ x∈m.procs,FewS x.body∧x.body.len≤1000
 body:FewS m.body∧m.body.len≤1000
theorem len_mem {α β:Type} {f : α→List β} : ∀ {l:List α} {x : α},x∈l→(f x).length≤(l.flatMap f).length
 | y :: r,x,h=>by
  rw [List.flatMap_cons,List.length_append]
  rcases List.mem_cons.1 h with rfl | h
  ·omega
  ·have:=len_mem (f:=f) h; omega
theorem few_mod {l:List UInt8} {m:Mod} (hl : l.length≤1000) (h : parse l = .ok m):FewM m:=by
 obtain ⟨hw,hk⟩:=parse_sp h
 have hk2 : (m.procs.flatMap procK).length + (stmtK m.body).length≤1000:=by
  simp only [modK,List.length_cons,List.length_append] at hk; omega
 refine ⟨by have:=hw.few; omega,by have:=hw.fewv; omega,by have:=hw.fewp; omega,fun x hx=>?_,fun x hx=>?_,?_⟩
 ·have h1:=(hw.procs x hx).few; have h2:=(hw.procs x hx).room; exact ⟨h1,by omega⟩
 ·have h1:=len_mem (f:=procK) hx
  have h2 : (stmtK x.body).length≤(procK x).length:=by simp only [procK,List.length_cons,List.length_append]; omega
  obtain ⟨a,b⟩:=few_stmts (hw.procs x hx).body (by omega)
  exact ⟨a,by omega⟩
 ·obtain ⟨a,b⟩:=few_stmts hw.body (by omega)
  exact ⟨a,by omega⟩
theorem FewM.turn {m:Mod} (h:FewM m):FewM ⟨m.name,m.imports,m.vars.reverse,m.procs.reverse,m.body⟩:=by
 refine ⟨h.imports,by simpa using h.vars,by simpa using h.procs,fun x hx=>h.params x (by simpa using hx),fun x hx=>h.bodies x (by simpa using hx),h.body⟩
end Go.Mq.Check
