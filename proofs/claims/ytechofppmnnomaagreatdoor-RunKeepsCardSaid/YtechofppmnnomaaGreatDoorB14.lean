/- Some texts in one. -/
import Derived.Test.YtechofppmnnomaaGreatDoorB10
import Derived.Test.YtechofppmnnomaaGreatDoorB13
namespace Go.Mq.Check
open Go Go.RowKit Go.Mq Go.Mq.Tree Go.Mq.Sym
abbrev dX:=Option (Nat × Nat)
structure Env where
 imports:List (List UInt8)
 seen:List UInt8→Option (List Sy)
 locals:List (List UInt8)
 vars:List bJ
 procs:List aX
inductive oH where
 | is (s:Sy)
 | bad (e p:Nat)
def Env.find (c:Env) (p:Nat) (m n:List UInt8):oH:=
 if m≠[] then
  if m∉c.imports then .bad 5 p
  else match jr ((c.seen m).getD []) n with
   | none=>.bad 7 p
   | some k=>.is (((c.seen m).getD []).getD k Sy.none)
 else if n∈c.locals then .is ⟨n,0,-1⟩
 else match c.vars.find? fun g=>g.name == n with
  | some g=>.is ⟨n,g.len,-1⟩
  | none=>match c.procs.find? fun x=>x.name == n with
   | some x=>.is ⟨n,0,x.params.length⟩
   | none=>.bad 7 p
def dx:E→Nat
 | .nil=>0
 | .cons _ r=>dx r + 1
 | _=>1
def ic (c:Env) (p:Nat) (m n:List UInt8) (f:Sy→dX):dX:=match c.find p m n with
 | .bad e q=>some (e,q)
 | .is s=>f s
def bA (c:Env):E→dX
 | .num _ _=>none
 | .var p m n=>ic c p m n fun s=>if 0≤s.args∨0 < s.len then some (1,p) else none
 | .item p m n i=>(ic c p m n fun s=>if 0≤s.args∨¬ 0 < s.len then some (1,p) else none).or (bA c i)
 | .un _ _ x=>bA c x
 | .bin _ _ x y=>(bA c x).or (bA c y)
 | .app p m n l=>(ic c p m n fun s=>if ¬ 0≤s.args then some (1,p) else if (dx l:Int)≠s.args then some (2,p) else none).or (bA c l)
 | .nil=>none
 | .cons x r=>(bA c x).or (bA c r)
def aQ (c:Env):S→dX
 | .nil=>none
 | .set p n none v r=>((bA c (.var p [] n)).or (bA c v)).or (aQ c r)
 | .set p n (some i) v r=>((bA c (.item p [] n i)).or (bA c v)).or (aQ c r)
 | .ifs _ v t e r=>(((bA c v).or (aQ c t)).or (aQ c e)).or (aQ c r)
 | .dE _ v t r=>((bA c v).or (aQ c t)).or (aQ c r)
 | .ret _ v r=>(bA c v).or (aQ c r)
 | .dI _ v r=>(bA c v).or (aQ c r)
 | .call _ v r=>(bA c v).or (aQ c r)
def eu:List (List UInt8)→List (List UInt8 × Nat)→dX
 | _,[]=>none
 | had,(n,p) :: r=>if n∈had then some (9,p) else eu (n :: had) r
def fU (own:List UInt8) (seen:List UInt8→Option (List Sy)):List (List UInt8)→List (List UInt8)→Option Nat
 | _,[]=>none
 | had,n :: r=>if n=own∨n∈had then some 10 else if (seen n).isNone then some 8 else fU own seen (had ++ [n]) r
def lG (m:Mod) (seen:List UInt8→Option (List Sy)) (x:aX):dX:=
 (eu [] ((x.params ++ x.vars).map fun n=>(n,x.pos))).or (aQ ⟨m.imports,seen,x.params ++ x.vars,m.vars,m.procs⟩ x.body)
def dV (m:Mod) (seen:List UInt8→Option (List Sy)):List aX→dX
 | []=>none
 | x :: r=>(lG m seen x).or (dV m seen r)
inductive Out where
 | fine
 | plain (e:Nat)
 | at_ (e p:Nat)
def Out.of:dX→Out
 | none=>.fine
 | some (e,p)=>.at_ e p
def check (m:Mod) (seen:List UInt8→Option (List Sy)):Out:=match fU m.name seen [] m.imports with
 | some e=>.plain e
 | none=>.of (((eu [] (m.vars.map (fun g=>(g.name,g.pos)) ++ m.procs.map fun x=>(x.name,x.pos))).or (dV m seen m.procs)).or (aQ ⟨m.imports,seen,[],m.vars,m.procs⟩ m.body))
end Go.Mq.Check
namespace Go.Mq.Check
open Go Go.RowKit Go.Mq Go.Mq.Tree Go.Mq.Sym
theorem FW : ∀ (l:List (List UInt8 × Nat)) (had:List (List UInt8)),eu had l=none↔(l.map (·.1)).Nodup ∧ ∀ x∈l.map (·.1),x∉had
 | [],had=>by simp [eu]
 | (n,p) :: r,had=>by
  rw [eu];split
  ·next h=>simp;intro _ _ h2;exact absurd h h2
  ·next h=>
   rw [FW r];simp only [List.map_cons,List.nodup_cons,List.mem_cons,forall_eq_or_imp,not_or]
   constructor
   ·rintro⟨h1,h2⟩
    exact⟨⟨fun hm=>(h2 n hm).1 rfl,h1⟩,h,fun x hx=>(h2 x hx).2⟩
   ·rintro⟨⟨h1,h2⟩,_,h3⟩
    exact⟨h2,fun x hx=>⟨fun he=>h1 (he ▸ hx),h3 x hx⟩⟩
theorem wz {c c':Env} (h : ∀ p m n,c'.find p m n=c.find p m n) : ∀ e,bA c' e=bA c e
 | .num _ _=>rfl
 | .var p m n=>by simp only [bA,ic,h]
 | .item p m n i=>by simp only [bA,ic,h,wz h i]
 | .un _ _ x=>by simp only [bA,wz h x]
 | .bin _ _ x y=>by simp only [bA,wz h x,wz h y]
 | .app p m n l=>by simp only [bA,ic,h,wz h l]
 | .nil=>rfl
 | .cons x r=>by simp only [bA,wz h x,wz h r]
theorem Yg {c c':Env} (h : ∀ p m n,c'.find p m n=c.find p m n) (s:S) : aQ c' s=aQ c s:=by
 have he:=wz h
 induction s with
 | nil=>rfl
 | set p n i v r ih=>cases i <;> simp only [aQ,he,ih]
 | ifs p v t e r ih1 ih2 ih3=>simp only [aQ,he,ih1,ih2,ih3]
 | dE p v t r ih1 ih2=>simp only [aQ,he,ih1,ih2]
 | ret p v r ih=>simp only [aQ,he,ih]
 | dI p v r ih=>simp only [aQ,he,ih]
 | call p v r ih=>simp only [aQ,he,ih]
theorem JK (m:Mod) (seen:List UInt8→Option (List Sy)) : ∀ l,dV m seen l=none ↔ ∀ x∈l,lG m seen x=none
 | []=>by simp [dV]
 | x :: r=>by rw [dV,Option.or_eq_none_iff,JK m seen r];simp
theorem wO {own:List UInt8} {seen:List UInt8→Option (List Sy)} : ∀ (l had:List (List UInt8)),fU own seen had l=none → ∀ n∈l,(seen n).isSome
 | [],_,_=>by simp
 | x :: r,had,h=>by
  rw [fU] at h;split at h
  ·cases h
  split at h
  ·cases h
  ·next h1 h2=>
   intro n hn;rcases List.mem_cons.1 hn with rfl|hn
   ·cases hs : seen n with
    | none=>simp [hs] at h2
    | some _=>rfl
   ·exact wO r _ h n hn
theorem CR {own:List UInt8} {seen seen':List UInt8→Option (List Sy)} : ∀ (l had:List (List UInt8)),(∀ n∈l,seen' n=seen n)→fU own seen' had l=fU own seen had l
 | [],_,_=>rfl
 | x :: r,had,h=>by
  rw [fU,fU,h x (by simp),CR r _ fun n hn=>h n (by simp [hn])]
theorem Yh {o:dX} : Out.of o = .fine↔o=none:=by
 cases o with
 | none=>simp [Out.of]
 | some x=>obtain⟨e,p⟩:=x;simp [Out.of]
theorem kU (m:Mod) (seen:List UInt8→Option (List Sy)) : check m seen = .fine↔fU m.name seen [] m.imports=none∧(m.vars.map (·.name) ++ m.procs.map (·.name)).Nodup∧(∀ x∈m.procs,lG m seen x=none)∧aQ ⟨m.imports,seen,[],m.vars,m.procs⟩ m.body=none:=by
 rw [check];cases hi : fU m.name seen [] m.imports with
 | some e=>simp
 | none=>
  simp only [Yh,Option.or_eq_none_iff,FW,JK,true_and];simp [and_assoc,Function.comp_def]
theorem Yi {im:List (List UInt8)} {seen seen':List UInt8→Option (List Sy)} {lo:List (List UInt8)} {vs:List bJ} {ps:List aX} (h : ∀ n∈im,seen' n=seen n) (p:Nat) (m n:List UInt8) :
  Env.find ⟨im,seen',lo,vs,ps⟩ p m n=Env.find ⟨im,seen,lo,vs,ps⟩ p m n:=by
 simp only [Env.find];split
 ·split
  ·rfl
  ·next h1=>rw [h m (by simpa using h1)]
 ·rfl
end Go.Mq.Check
namespace Go.Mq.Check
open Go Go.RowKit Go.Mq Go.Mq.Tree Go.Mq.Sym
def bK:E→Prop
 | .num _ _=>True
 | .var _ _ _=>True
 | .item _ _ _ i=>bK i
 | .un _ _ x=>bK x
 | .bin _ _ x y=>bK x∧bK y
 | .app _ _ _ l=>dx l≤1000∧bK l
 | .nil=>True
 | .cons x r=>bK x∧bK r
def cu:S→Prop
 | .nil=>True
 | .set _ _ i v r=>(∀ x,i=some x→bK x)∧bK v∧cu r
 | .ifs _ v t e r=>bK v∧cu t∧t.len≤1000∧cu e∧e.len≤1000∧cu r
 | .dE _ v t r=>bK v∧cu t∧t.len≤1000∧cu r
 | .ret _ v r=>bK v∧cu r
 | .dI _ v r=>bK v∧cu r
 | .call _ v r=>bK v∧cu r
theorem Yj (m n:List UInt8) : 1≤(oD m n).length:=by
 rw [oD];split <;> simp
theorem JL (lv:Nat) (x:E) (K:List (List UInt8)):K.length≤(jT lv x K).length:=by
 rw [jT];split <;> simp;omega
theorem Yk {x:E} (h : x.oC) : 1≤(toks x).length:=by
 cases x with
 | num p n=>simp [toks]
 | var p m n=>exact Yj m n
 | item p m n i=>simp [toks];omega
 | un p op x=>simp [toks]
 | bin p op x y=>simp [toks];omega
 | app p m n l=>simp [toks];omega
 | nil=>exact h.elim
 | cons _ _=>exact h.elim
theorem Pm (x r:E) : (toks x).length + (toks r).length≤(toks (.cons x r)).length:=by
 cases r <;> simp [toks] <;> omega
theorem Yl (x:E) {r:E} (_h : r.Aq) : (toks x).length + dx r≤(toks x).length + (toks r).length→1≤(toks x).length→dx (.cons x r)≤(toks (.cons x r)).length:=by
 intro h1 h2;have:=Pm x r;simp only [dx];omega
theorem Pn : ∀ {l:E},WF l→l.Aq→dx l≤(toks l).length
 | .nil,_,_=>by simp [dx]
 | .cons x r,h,_=>by
  have h1:=Pn h.2.1 h.2.2;exact Yl x h.2.2 (by omega) (Yk h.1.2)
 | .num _ _,_,h=>h.elim
 | .var _ _ _,_,h=>h.elim
 | .item _ _ _ _,_,h=>h.elim
 | .un _ _ _,_,h=>h.elim
 | .bin _ _ _ _,_,h=>h.elim
 | .app _ _ _ _,_,h=>h.elim
theorem yK {e:E} : WF e→(toks e).length≤1000→bK e:=by
 induction e with
 | num p n=>exact fun _ _=>trivial
 | var p m n=>exact fun _ _=>trivial
 | item p m n i ih=>exact fun h k=>ih h.2.2.1 (by simp [toks] at k;omega)
 | un p op x ih=>exact fun h k=>ih h.2.1 (by have:=JL 5 x (toks x);simp [toks] at k;omega)
 | bin p op x y ih1 ih2=>
   intro h k;have h1:=JL (qH op) x (toks x);have h2:=JL (qH op + 1) y (toks y);simp [toks] at k
   exact⟨ih1 h.2.1.1 (by omega),ih2 h.2.2.1 (by omega)⟩
 | app p m n l ih=>
   intro h k;simp [toks] at k
   have:=Pn h.2.2.1 h.2.2.2;exact⟨by omega,ih h.2.2.1 (by omega)⟩
 | nil=>exact fun _ _=>trivial
 | cons x r ih1 ih2=>
   intro h k;have:=Pm x r;exact⟨ih1 h.1.1 (by omega),ih2 h.2.1 (by omega)⟩
theorem Ym (x:E) : (toks x).length≤(yD (some x)).length:=by simp [yD];omega
theorem Po {s:S} : ∀ {d:Nat},gI d s→(bH s).length≤1000→cu s∧s.len≤(bH s).length:=by
 induction s with
 | nil=>exact fun _ _=>⟨trivial,by simp [S.len]⟩
 | set p n i v r ih=>
   intro d h k;simp [bH] at k
   obtain⟨a,b⟩:=ih h.2.2.2 (by omega);refine⟨⟨fun x hx=>?_,yK h.2.2.1.1.1 (by omega),a⟩,by simp [bH,S.len];omega⟩;subst hx;have:=Ym x;exact yK (h.2.1 x rfl).1.1 (by omega)
 | ifs p v t e r ih1 ih2 ih3=>
   intro d h k;have ke : (bH e).length≤(if e.isNil then [] else [101,108,115,101] :: bH e).length:=by
    cases e <;> simp [S.isNil,bH] <;> omega
   simp only [bH,List.length_cons,List.length_append] at k;obtain⟨a,b⟩:=ih1 h.2.1.1.2 (by omega);obtain⟨a2,b2⟩:=ih2 h.2.1.2.2 (by omega);obtain⟨a3,b3⟩:=ih3 h.2.2 (by omega);exact⟨⟨yK h.1.1.1 (by omega),a,by omega,a2,by omega,a3⟩,by simp only [bH,List.length_cons,List.length_append,S.len];omega⟩
 | dE p v t r ih1 ih2=>
   intro d h k;simp only [bH,List.length_cons,List.length_append] at k;obtain⟨a,b⟩:=ih1 h.2.1.2 (by omega);obtain⟨a3,b3⟩:=ih2 h.2.2 (by omega);exact⟨⟨yK h.1.1.1 (by omega),a,by omega,a3⟩,by simp only [bH,List.length_cons,List.length_append,S.len];omega⟩
 | ret p v r ih=>
   intro d h k;simp only [bH,List.length_cons,List.length_append] at k;obtain⟨a,b⟩:=ih h.2 (by omega);exact⟨⟨yK h.1.1.1 (by omega),a⟩,by simp only [bH,List.length_cons,List.length_append,S.len];omega⟩
 | dI p v r ih=>
   intro d h k;simp only [bH,List.length_cons,List.length_append] at k;obtain⟨a,b⟩:=ih h.2 (by omega);exact⟨⟨yK h.1.1.1 (by omega),a⟩,by simp only [bH,List.length_cons,List.length_append,S.len];omega⟩
 | call p v r ih=>
   intro d h k;simp only [bH,List.length_cons,List.length_append] at k;obtain⟨a,b⟩:=ih h.2 (by omega);exact⟨⟨yK h.1.1.1.1 (by omega),a⟩,by simp only [bH,List.length_cons,List.length_append,S.len];omega⟩
structure fI (m:Mod):Prop where
 imports : m.imports.length≤1000
 vars : m.vars.length≤1000
 procs : m.procs.length≤1000
 params : ∀ x∈m.procs,x.params.length≤10∧x.vars.length≤10
 bodies : ∀ x∈m.procs,cu x.body∧x.body.len≤1000
 body:cu m.body∧m.body.len≤1000
theorem Pp {α β:Type} {f : α→List β} : ∀ {l:List α} {x : α},x∈l→(f x).length≤(l.flatMap f).length
 | y :: r,x,h=>by
  rw [List.flatMap_cons,List.length_append];rcases List.mem_cons.1 h with rfl|h
  ·omega
  ·have:=Pp (f:=f) h;omega
theorem Pq {l:List UInt8} {m:Mod} (hl : l.length≤1000) (h : parse l = .ok m):fI m:=by
 obtain⟨hw,hk⟩:=O7 h;have hk2 : (m.procs.flatMap qP).length + (bH m.body).length≤1000:=by
  simp only [Av,List.length_cons,List.length_append] at hk;omega
 refine⟨by have:=hw.few;omega,by have:=hw.oF;omega,by have:=hw.tq;omega,fun x hx=>?_,fun x hx=>?_,?_⟩
 ·have h1:=(hw.procs x hx).few;have h2:=(hw.procs x hx).room;exact⟨h1,by omega⟩
 ·have h1:=Pp (f:=qP) hx
  have h2 : (bH x.body).length≤(qP x).length:=by simp only [qP,List.length_cons,List.length_append];omega
  obtain⟨a,b⟩:=Po (hw.procs x hx).body (by omega);exact⟨a,by omega⟩
 ·obtain⟨a,b⟩:=Po hw.body (by omega)
  exact⟨a,by omega⟩
end Go.Mq.Check
