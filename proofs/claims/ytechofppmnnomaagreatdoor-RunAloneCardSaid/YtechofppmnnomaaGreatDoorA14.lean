/- Some texts in one. -/
import Derived.Test.YtechofppmnnomaaGreatDoorA10
import Derived.Test.YtechofppmnnomaaGreatDoorA13
namespace Go.Mq.Check
open Go Go.RowKit Go.Mq Go.Mq.Tree Go.Mq.Sym
abbrev eP:=Option (Nat × Nat)
structure Env where
 imports:List (List UInt8)
 seen:List UInt8→Option (List Sy)
 locals:List (List UInt8)
 vars:List bJ
 procs:List aX
inductive oL where
 | is (s:Sy)
 | bad (e p:Nat)
def Env.find (c:Env) (p:Nat) (m n:List UInt8):oL:=
 if m≠[] then
  if m∉c.imports then .bad 5 p
  else match jB ((c.seen m).getD []) n with
   | none=>.bad 7 p
   | some k=>.is (((c.seen m).getD []).getD k Sy.none)
 else if n∈c.locals then .is ⟨n,0,-1⟩
 else match c.vars.find? fun g=>g.name == n with
  | some g=>.is ⟨n,g.len,-1⟩
  | none=>match c.procs.find? fun x=>x.name == n with
   | some x=>.is ⟨n,0,x.params.length⟩
   | none=>.bad 7 p
def dx:E→Nat
 | .nil=>0
 | .cons _ r=>dx r + 1
 | _=>1
def iB (c:Env) (p:Nat) (m n:List UInt8) (f:Sy→eP):eP:=match c.find p m n with
 | .bad e q=>some (e,q)
 | .is s=>f s
def aU (c:Env):E→eP
 | .num _ _=>none
 | .var p m n=>iB c p m n fun s=>if 0≤s.args∨0 < s.len then some (1,p) else none
 | .item p m n i=>(iB c p m n fun s=>if 0≤s.args∨¬ 0 < s.len then some (1,p) else none).or (aU c i)
 | .un _ _ x=>aU c x
 | .bin _ _ x y=>(aU c x).or (aU c y)
 | .app p m n l=>(iB c p m n fun s=>if ¬ 0≤s.args then some (1,p) else if (dx l:Int)≠s.args then some (2,p) else none).or (aU c l)
 | .nil=>none
 | .cons x r=>(aU c x).or (aU c r)
def aN (c:Env):S→eP
 | .nil=>none
 | .set p n none v r=>((aU c (.var p [] n)).or (aU c v)).or (aN c r)
 | .set p n (some i) v r=>((aU c (.item p [] n i)).or (aU c v)).or (aN c r)
 | .ifs _ v t e r=>(((aU c v).or (aN c t)).or (aN c e)).or (aN c r)
 | .dB _ v t r=>((aU c v).or (aN c t)).or (aN c r)
 | .ret _ v r=>(aU c v).or (aN c r)
 | .dD _ v r=>(aU c v).or (aN c r)
 | .call _ v r=>(aU c v).or (aN c r)
def fq:List (List UInt8)→List (List UInt8 × Nat)→eP
 | _,[]=>none
 | had,(n,p) :: r=>if n∈had then some (9,p) else fq (n :: had) r
def gY (own:List UInt8) (seen:List UInt8→Option (List Sy)):List (List UInt8)→List (List UInt8)→Option Nat
 | _,[]=>none
 | had,n :: r=>if n=own∨n∈had then some 10 else if (seen n).isNone then some 8 else gY own seen (had ++ [n]) r
def lM (m:Mod) (seen:List UInt8→Option (List Sy)) (x:aX):eP:=
 (fq [] ((x.params ++ x.vars).map fun n=>(n,x.pos))).or (aN ⟨m.imports,seen,x.params ++ x.vars,m.vars,m.procs⟩ x.body)
def eX (m:Mod) (seen:List UInt8→Option (List Sy)):List aX→eP
 | []=>none
 | x :: r=>(lM m seen x).or (eX m seen r)
inductive Out where
 | fine
 | plain (e:Nat)
 | at_ (e p:Nat)
def Out.of:eP→Out
 | none=>.fine
 | some (e,p)=>.at_ e p
def check (m:Mod) (seen:List UInt8→Option (List Sy)):Out:=match gY m.name seen [] m.imports with
 | some e=>.plain e
 | none=>.of (((fq [] (m.vars.map (fun g=>(g.name,g.pos)) ++ m.procs.map fun x=>(x.name,x.pos))).or (eX m seen m.procs)).or (aN ⟨m.imports,seen,[],m.vars,m.procs⟩ m.body))
end Go.Mq.Check
namespace Go.Mq.Check
open Go Go.RowKit Go.Mq Go.Mq.Tree Go.Mq.Sym
theorem F4 : ∀ (l:List (List UInt8 × Nat)) (had:List (List UInt8)),fq had l=none↔(l.map (·.1)).Nodup ∧ ∀ x∈l.map (·.1),x∉had
 | [],had=>by simp [fq]
 | (n,p) :: r,had=>by
  rw [fq];split
  ·next h=>simp;intro _ _ h2;exact absurd h h2
  ·next h=>
   rw [F4 r];simp only [List.map_cons,List.nodup_cons,List.mem_cons,forall_eq_or_imp,not_or]
   constructor
   ·rintro⟨h1,h2⟩
    exact⟨⟨fun hm=>(h2 n hm).1 rfl,h1⟩,h,fun x hx=>(h2 x hx).2⟩
   ·rintro⟨⟨h1,h2⟩,_,h3⟩
    exact⟨h2,fun x hx=>⟨fun he=>h1 (he ▸ hx),h3 x hx⟩⟩
theorem wZ {c c':Env} (h : ∀ p m n,c'.find p m n=c.find p m n) : ∀ e,aU c' e=aU c e
 | .num _ _=>rfl
 | .var p m n=>by simp only [aU,iB,h]
 | .item p m n i=>by simp only [aU,iB,h,wZ h i]
 | .un _ _ x=>by simp only [aU,wZ h x]
 | .bin _ _ x y=>by simp only [aU,wZ h x,wZ h y]
 | .app p m n l=>by simp only [aU,iB,h,wZ h l]
 | .nil=>rfl
 | .cons x r=>by simp only [aU,wZ h x,wZ h r]
theorem YD {c c':Env} (h : ∀ p m n,c'.find p m n=c.find p m n) (s:S) : aN c' s=aN c s:=by
 have he:=wZ h
 induction s with
 | nil=>rfl
 | set p n i v r ih=>cases i <;> simp only [aN,he,ih]
 | ifs p v t e r ih1 ih2 ih3=>simp only [aN,he,ih1,ih2,ih3]
 | dB p v t r ih1 ih2=>simp only [aN,he,ih1,ih2]
 | ret p v r ih=>simp only [aN,he,ih]
 | dD p v r ih=>simp only [aN,he,ih]
 | call p v r ih=>simp only [aN,he,ih]
theorem JV (m:Mod) (seen:List UInt8→Option (List Sy)) : ∀ l,eX m seen l=none ↔ ∀ x∈l,lM m seen x=none
 | []=>by simp [eX]
 | x :: r=>by rw [eX,Option.or_eq_none_iff,JV m seen r];simp
theorem tH {own:List UInt8} {seen:List UInt8→Option (List Sy)} : ∀ (l had:List (List UInt8)),gY own seen had l=none → ∀ n∈l,(seen n).isSome
 | [],_,_=>by simp
 | x :: r,had,h=>by
  rw [gY] at h;split at h
  ·cases h
  split at h
  ·cases h
  ·next h1 h2=>
   intro n hn;rcases List.mem_cons.1 hn with rfl|hn
   ·cases hs : seen n with
    | none=>simp [hs] at h2
    | some _=>rfl
   ·exact tH r _ h n hn
theorem CX {own:List UInt8} {seen seen':List UInt8→Option (List Sy)} : ∀ (l had:List (List UInt8)),(∀ n∈l,seen' n=seen n)→gY own seen' had l=gY own seen had l
 | [],_,_=>rfl
 | x :: r,had,h=>by
  rw [gY,gY,h x (by simp),CX r _ fun n hn=>h n (by simp [hn])]
theorem YE {o:eP} : Out.of o = .fine↔o=none:=by
 cases o with
 | none=>simp [Out.of]
 | some x=>obtain⟨e,p⟩:=x;simp [Out.of]
theorem kI (m:Mod) (seen:List UInt8→Option (List Sy)) : check m seen = .fine↔gY m.name seen [] m.imports=none∧(m.vars.map (·.name) ++ m.procs.map (·.name)).Nodup∧(∀ x∈m.procs,lM m seen x=none)∧aN ⟨m.imports,seen,[],m.vars,m.procs⟩ m.body=none:=by
 rw [check];cases hi : gY m.name seen [] m.imports with
 | some e=>simp
 | none=>
  simp only [YE,Option.or_eq_none_iff,F4,JV,true_and];simp [and_assoc,Function.comp_def]
theorem YF {im:List (List UInt8)} {seen seen':List UInt8→Option (List Sy)} {lo:List (List UInt8)} {vs:List bJ} {ps:List aX} (h : ∀ n∈im,seen' n=seen n) (p:Nat) (m n:List UInt8) :
  Env.find ⟨im,seen',lo,vs,ps⟩ p m n=Env.find ⟨im,seen,lo,vs,ps⟩ p m n:=by
 simp only [Env.find];split
 ·split
  ·rfl
  ·next h1=>rw [h m (by simpa using h1)]
 ·rfl
end Go.Mq.Check
namespace Go.Mq.Check
open Go Go.RowKit Go.Mq Go.Mq.Tree Go.Mq.Sym
def bK:E→Prop
 | .num _ _=>True
 | .var _ _ _=>True
 | .item _ _ _ i=>bK i
 | .un _ _ x=>bK x
 | .bin _ _ x y=>bK x∧bK y
 | .app _ _ _ l=>dx l≤1000∧bK l
 | .nil=>True
 | .cons x r=>bK x∧bK r
def bZ:S→Prop
 | .nil=>True
 | .set _ _ i v r=>(∀ x,i=some x→bK x)∧bK v∧bZ r
 | .ifs _ v t e r=>bK v∧bZ t∧t.len≤1000∧bZ e∧e.len≤1000∧bZ r
 | .dB _ v t r=>bK v∧bZ t∧t.len≤1000∧bZ r
 | .ret _ v r=>bK v∧bZ r
 | .dD _ v r=>bK v∧bZ r
 | .call _ v r=>bK v∧bZ r
theorem YG (m n:List UInt8) : 1≤(oJ m n).length:=by
 rw [oJ];split <;> simp
theorem JW (lv:Nat) (x:E) (K:List (List UInt8)):K.length≤(jV lv x K).length:=by
 rw [jV];split <;> simp;omega
theorem YH {x:E} (h : x.oI) : 1≤(toks x).length:=by
 cases x with
 | num p n=>simp [toks]
 | var p m n=>exact YG m n
 | item p m n i=>simp [toks];omega
 | un p op x=>simp [toks]
 | bin p op x y=>simp [toks];omega
 | app p m n l=>simp [toks];omega
 | nil=>exact h.elim
 | cons _ _=>exact h.elim
theorem PK (x r:E) : (toks x).length + (toks r).length≤(toks (.cons x r)).length:=by
 cases r <;> simp [toks] <;> omega
theorem YI (x:E) {r:E} (_h : r.Ar) : (toks x).length + dx r≤(toks x).length + (toks r).length→1≤(toks x).length→dx (.cons x r)≤(toks (.cons x r)).length:=by
 intro h1 h2;have:=PK x r;simp only [dx];omega
theorem PL : ∀ {l:E},WF l→l.Ar→dx l≤(toks l).length
 | .nil,_,_=>by simp [dx]
 | .cons x r,h,_=>by
  have h1:=PL h.2.1 h.2.2;exact YI x h.2.2 (by omega) (YH h.1.2)
 | .num _ _,_,h=>h.elim
 | .var _ _ _,_,h=>h.elim
 | .item _ _ _ _,_,h=>h.elim
 | .un _ _ _,_,h=>h.elim
 | .bin _ _ _ _,_,h=>h.elim
 | .app _ _ _ _,_,h=>h.elim
theorem yK {e:E} : WF e→(toks e).length≤1000→bK e:=by
 induction e with
 | num p n=>exact fun _ _=>trivial
 | var p m n=>exact fun _ _=>trivial
 | item p m n i ih=>exact fun h k=>ih h.2.2.1 (by simp [toks] at k;omega)
 | un p op x ih=>exact fun h k=>ih h.2.1 (by have:=JW 5 x (toks x);simp [toks] at k;omega)
 | bin p op x y ih1 ih2=>
   intro h k;have h1:=JW (qD op) x (toks x);have h2:=JW (qD op + 1) y (toks y);simp [toks] at k
   exact⟨ih1 h.2.1.1 (by omega),ih2 h.2.2.1 (by omega)⟩
 | app p m n l ih=>
   intro h k;simp [toks] at k
   have:=PL h.2.2.1 h.2.2.2;exact⟨by omega,ih h.2.2.1 (by omega)⟩
 | nil=>exact fun _ _=>trivial
 | cons x r ih1 ih2=>
   intro h k;have:=PK x r;exact⟨ih1 h.1.1 (by omega),ih2 h.2.1 (by omega)⟩
theorem YJ (x:E) : (toks x).length≤(yD (some x)).length:=by simp [yD];omega
theorem PM {s:S} : ∀ {d:Nat},gJ d s→(bG s).length≤1000→bZ s∧s.len≤(bG s).length:=by
 induction s with
 | nil=>exact fun _ _=>⟨trivial,by simp [S.len]⟩
 | set p n i v r ih=>
   intro d h k;simp [bG] at k
   obtain⟨a,b⟩:=ih h.2.2.2 (by omega);refine⟨⟨fun x hx=>?_,yK h.2.2.1.1.1 (by omega),a⟩,by simp [bG,S.len];omega⟩;subst hx;have:=YJ x;exact yK (h.2.1 x rfl).1.1 (by omega)
 | ifs p v t e r ih1 ih2 ih3=>
   intro d h k;have ke : (bG e).length≤(if e.isNil then [] else [101,108,115,101] :: bG e).length:=by
    cases e <;> simp [S.isNil,bG] <;> omega
   simp only [bG,List.length_cons,List.length_append] at k;obtain⟨a,b⟩:=ih1 h.2.1.1.2 (by omega);obtain⟨a2,b2⟩:=ih2 h.2.1.2.2 (by omega);obtain⟨a3,b3⟩:=ih3 h.2.2 (by omega);exact⟨⟨yK h.1.1.1 (by omega),a,by omega,a2,by omega,a3⟩,by simp only [bG,List.length_cons,List.length_append,S.len];omega⟩
 | dB p v t r ih1 ih2=>
   intro d h k;simp only [bG,List.length_cons,List.length_append] at k;obtain⟨a,b⟩:=ih1 h.2.1.2 (by omega);obtain⟨a3,b3⟩:=ih2 h.2.2 (by omega);exact⟨⟨yK h.1.1.1 (by omega),a,by omega,a3⟩,by simp only [bG,List.length_cons,List.length_append,S.len];omega⟩
 | ret p v r ih=>
   intro d h k;simp only [bG,List.length_cons,List.length_append] at k;obtain⟨a,b⟩:=ih h.2 (by omega);exact⟨⟨yK h.1.1.1 (by omega),a⟩,by simp only [bG,List.length_cons,List.length_append,S.len];omega⟩
 | dD p v r ih=>
   intro d h k;simp only [bG,List.length_cons,List.length_append] at k;obtain⟨a,b⟩:=ih h.2 (by omega);exact⟨⟨yK h.1.1.1 (by omega),a⟩,by simp only [bG,List.length_cons,List.length_append,S.len];omega⟩
 | call p v r ih=>
   intro d h k;simp only [bG,List.length_cons,List.length_append] at k;obtain⟨a,b⟩:=ih h.2 (by omega);exact⟨⟨yK h.1.1.1.1 (by omega),a⟩,by simp only [bG,List.length_cons,List.length_append,S.len];omega⟩
structure fG (m:Mod):Prop where
 imports : m.imports.length≤1000
 vars : m.vars.length≤1000
 procs : m.procs.length≤1000
 params : ∀ x∈m.procs,x.params.length≤10∧x.vars.length≤10
 bodies : ∀ x∈m.procs,bZ x.body∧x.body.len≤1000
 body:bZ m.body∧m.body.len≤1000
theorem PN {α β:Type} {f : α→List β} : ∀ {l:List α} {x : α},x∈l→(f x).length≤(l.flatMap f).length
 | y :: r,x,h=>by
  rw [List.flatMap_cons,List.length_append];rcases List.mem_cons.1 h with rfl|h
  ·omega
  ·have:=PN (f:=f) h;omega
theorem PO {l:List UInt8} {m:Mod} (hl : l.length≤1000) (h : parse l = .ok m):fG m:=by
 obtain⟨hw,hk⟩:=Pt h;have hk2 : (m.procs.flatMap qL).length + (bG m.body).length≤1000:=by
  simp only [Aw,List.length_cons,List.length_append] at hk;omega
 refine⟨by have:=hw.few;omega,by have:=hw.qK;omega,by have:=hw.wY;omega,fun x hx=>?_,fun x hx=>?_,?_⟩
 ·have h1:=(hw.procs x hx).few;have h2:=(hw.procs x hx).room;exact⟨h1,by omega⟩
 ·have h1:=PN (f:=qL) hx
  have h2 : (bG x.body).length≤(qL x).length:=by simp only [qL,List.length_cons,List.length_append];omega
  obtain⟨a,b⟩:=PM (hw.procs x hx).body (by omega);exact⟨a,by omega⟩
 ·obtain⟨a,b⟩:=PM hw.body (by omega)
  exact⟨a,by omega⟩
end Go.Mq.Check
