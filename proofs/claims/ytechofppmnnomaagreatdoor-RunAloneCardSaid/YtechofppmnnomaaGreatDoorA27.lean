/- Some texts in one. -/
import Derived.Test.YtechofppmnnomaaGreatDoorA10
import Derived.Test.YtechofppmnnomaaGreatDoorA14
import Derived.Test.YtechofppmnnomaaGreatDoorA17
import Derived.Test.YtechofppmnnomaaGreatDoorA21
import Derived.Test.YtechofppmnnomaaGreatDoorA25
import Derived.Test.YtechofppmnnomaaGreatDoorA26
namespace Go.Mq.Run
open Go Go.RowKit Go.Mq Go.Mq.Tree Go.Mq.Sym
open Go.Mq.Check (Env oL aU aN lM eX iB dx check Out kI F4 fG)
def ql (M:Ms) (m:Mod) (lo:List Nm):Env:=⟨m.imports,dL M,lo,m.vars,m.procs⟩
def Loc (lo:List Nm) (fr:Fr):Prop:=∀ n,n∈lo↔(dN fr n).isSome
theorem L8 (fr:Fr) (n:Nm) (v:Int) (k:Nm) : dN (jZ fr n v) k=if n=k then some v else dN fr k:=by
 induction fr with
 | nil=>simp [jZ,dN]
 | cons p r ih=>
  obtain⟨a,u⟩:=p;rw [jZ];split
  ·next h=>subst h;rw [dN,dN];split <;> simp_all
  ·next h=>
   rw [dN,dN,ih];split
   ·next h2=>subst h2;rw [if_neg (fun e=>h e.symm)]
   ·rfl
theorem Loc.put {lo:List Nm} {fr:Fr} (h:Loc lo fr) {n:Nm} (hn : (dN fr n).isSome) (v:Int):Loc lo (jZ fr n v):=fun k=>by
 rw [h k,L8];split
 ·next e=>subst e;simp [hn]
 ·rfl
def Shape (M:Ms) (vs:Vs):Prop:=∀ q m,M q=some m → ∀ g∈m.vars,∃ l,vs q g.name=some l∧l.length=jm g
theorem SX (g:bJ) : 1≤jm g:=by unfold jm;omega
structure zJ (M:Ms):Prop where
 good : ∀ q m,M q=some m→lW m∧m.name=q
 fine : ∀ q m,M q=some m→check m (dL M) = .fine
theorem Shape.al {M:Ms} {vs vs':Vs} (h:Shape M vs) (k : ∀ q n,(vs' q n).map List.length=(vs q n).map List.length):Shape M vs':=fun q m hq g hg=>by
 obtain⟨l,h1,h2⟩:=h q m hq g hg;have:=k q g.name;rw [h1] at this;cases hv : vs' q g.name with
 | none=>rw [hv] at this;cases this
 | some l'=>rw [hv] at this;simp at this;exact⟨l',rfl,by omega⟩
theorem acH {m:Mod} {s:Sy} (h : s∈ofM m) : (∃ g∈m.vars,s=pX g) ∨ ∃ p∈m.procs,s=tF p:=by
 have:=Qc h;rcases List.mem_append.1 this with h|h
 ·obtain⟨g,hg,rfl⟩:=List.mem_map.1 h;exact .inl ⟨g,(List.mem_filter.1 hg).1,rfl⟩
 ·obtain⟨g,hg,rfl⟩:=List.mem_map.1 h;exact .inr ⟨g,(List.mem_filter.1 hg).1,rfl⟩
theorem Ic {l:List Sy} {n:Nm} {k:Nat} (h : jB l n=some k) : l.getD k Sy.none∈l∧(l.getD k Sy.none).name=n:=by
 obtain⟨hlt,h2,_⟩:=List.findIdx?_eq_some_iff_getElem.1 h;have e : l.getD k Sy.none=l[k]:=by simp [List.getD,hlt]
 rw [e];exact⟨List.getElem_mem hlt,by simpa using h2⟩
theorem L9 {M:Ms} {m:Mod} {lo:List Nm} {p:Nat} {mm n:Nm} {s:Sy} (hmm : mm≠[]) (h : (ql M m lo).find p mm n = .is s) : mm∈m.imports ∧ ∃ mo,M mm=some mo∧((∃ g∈mo.vars,s=pX g∧g.name=n) ∨ ∃ x∈mo.procs,s=tF x∧x.name=n):=by
 unfold Env.find at h
 rw [if_pos hmm] at h
 change (if mm∉m.imports then oL.bad 5 p else match jB ((dL M mm).getD []) n with
  | none=>.bad 7 p
  | some k=>.is (((dL M mm).getD []).getD k Sy.none))=oL.is s at h
 by_cases hi : mm∉m.imports
 ·rw [if_pos hi] at h;cases h
 ·rw [if_neg hi] at h
  refine⟨Classical.not_not.1 hi,?_⟩;cases hM:M mm with
  | none=>simp [dL,hM,jB] at h
  | some mo=>
   simp only [dL,hM,Option.map_some,Option.getD_some] at h;cases hk : jB (ofM mo) n with
   | none=>rw [hk] at h;cases h
   | some k=>
    rw [hk] at h;simp only at h;cases h
    obtain⟨h1,h2⟩:=Ic hk;refine⟨mo,rfl,?_⟩;rcases acH h1 with⟨g,hg,e⟩|⟨x,hx,e⟩
    ·exact .inl ⟨g,hg,e,by rw [← h2,e];rfl⟩
    ·exact .inr ⟨x,hx,e,by rw [← h2,e];rfl⟩
theorem SY {M:Ms} {m:Mod} {lo:List Nm} {p:Nat} {n:Nm} {s:Sy} (h : (ql M m lo).find p [] n = .is s) : n∈lo∧s.args = -1∧s.len=0∨n∉lo∧((∃ g∈m.vars,s=⟨n,g.len,-1⟩∧g.name=n) ∨ ∃ x∈m.procs,s=⟨n,0,x.params.length⟩∧x.name=n):=by
 unfold Env.find at h
 rw [if_neg (by simp)] at h
 change (if n∈lo then oL.is ⟨n,0,-1⟩ else match m.vars.find? fun g=>g.name == n with
  | some g=>.is ⟨n,g.len,-1⟩
  | none=>match m.procs.find? fun x=>x.name == n with
   | some x=>.is ⟨n,0,x.params.length⟩
   | none=>.bad 7 p)=oL.is s at h
 by_cases hl : n∈lo
 ·rw [if_pos hl] at h;cases h;exact .inl ⟨hl,rfl,rfl⟩
 ·rw [if_neg hl] at h
  refine .inr ⟨hl,?_⟩;split at h
  ·next g hg=>cases h;exact .inl ⟨g,List.mem_of_find?_eq_some hg,rfl,by simpa using List.find?_some hg⟩
  ·split at h
   ·next x hx=>cases h;exact .inr ⟨x,List.mem_of_find?_eq_some hx,rfl,by simpa using List.find?_some hx⟩
   ·cases h
theorem Ma {c:Env} {p:Nat} {m n:Nm} {f:Sy→Go.Mq.Check.eP} (h : iB c p m n f=none) : ∃ s,c.find p m n = .is s∧f s=none:=by
 unfold iB at h
 cases hf : c.find p m n with
 | bad e q=>rw [hf] at h;cases h
 | is s=>rw [hf] at h;exact⟨s,rfl,h⟩
theorem S9 (q:Nm) : bV q []=q:=if_pos rfl
theorem Ta {q m:Nm} (h : m≠[]) : bV q m=m:=if_neg h
theorem acI {M:Ms} (hM:zJ M) {q:Nm} {m:Mod} (hq:M q=some m) : (m.procs.map (·.name)).Nodup:=(List.nodup_append.1 ((kI _ _).1 (hM.fine q m hq)).2.1).2.1
theorem acJ {l:List aX} (h : (l.map (·.name)).Nodup) {x:aX} (hx : x∈l) : l.find? (fun p=>p.name == x.name)=some x:=by
 induction l with
 | nil=>cases hx
 | cons y r ih=>
  rw [List.map_cons,List.nodup_cons] at h;rw [List.find?_cons];rcases List.mem_cons.1 hx with rfl|hx
  ·simp
  ·have : (y.name == x.name)=false:=by
    simp only [beq_eq_false_iff_ne];intro e;exact h.1 (e ▸ List.mem_map_of_mem hx)
   rw [this];exact ih h.2 hx
def aM {α:Type} (f:Nat→O α):Prop:=∀ g g',g≤g'→Le (f g) (f g')
def Fin {α:Type} (f:Nat→O α):Prop:=∃ g,f g ≠ .stuck
theorem Le.Tc {α:Type} {a b:O α} (h:Le a b) (k : a ≠ .stuck) : a=b:=h.resolve_left k
theorem Fin.bind {α β:Type} {f:Nat→O α} {k:Nat→α→St→O β} (hf:aM f) (hk : ∀ a s,aM (fun g=>k g a s)) (h:Fin f) (h2 : ∀ g a s,f g = .ok a s→Fin (fun g=>k g a s)):Fin (fun g=>(f g).bind (k g)):=by
 obtain⟨g,hg⟩:=h;cases ho : f g with
 | stuck=>exact absurd ho hg
 | stop w s=>exact⟨g,by simp [ho,O.bind]⟩
 | ok a s=>
  obtain⟨g2,hg2⟩:=h2 g a s ho;refine⟨max g g2,?_⟩;have e1:=(hf g (max g g2) (Nat.le_max_left _ _)).Tc hg;have e2:=(hk a s g2 (max g g2) (Nat.le_max_right _ _)).Tc hg2
  show (f (max g g2)).bind _≠_
  rw [← e1,ho]
  show k (max g g2) a s≠_
  simp only at e2;rw [← e2];exact hg2
theorem Fin.const {α:Type} {o:O α} (h : o ≠ .stuck):Fin (fun _=>o):=⟨0,h⟩
theorem aM.const {α:Type} (o:O α):aM (fun _=>o):=fun _ _ _=>.refl _
theorem gM (M:Ms) (d:Nat) (q:Nm) (fr:Fr) (x:E) (s:St):aM fun g=>(fns M g).e d q fr x s:=fun _ _ h=>(zK M h).e d q fr x s
theorem Mc (M:Ms) (d:Nat) (q:Nm) (fr:Fr) (x:E) (s:St):aM fun g=>(fns M g).es d q fr x s:=fun _ _ h=>(zK M h).es d q fr x s
theorem acK (M:Ms) (d:Nat) (q:Nm) (p:aX) (a:List Int) (s:St):aM fun g=>(fns M g).c d q p a s:=fun _ _ h=>(zK M h).c d q p a s
theorem zL (M:Ms) (d:Nat) (q:Nm) (fr:Fr) (x:S) (s:St):aM fun g=>(fns M g).b d q fr x s:=fun _ _ h=>(zK M h).b d q fr x s
theorem Ie (M:Ms) (d:Nat) (q:Nm) (fr:Fr) (v:E) (t:S) (s:St):aM fun g=>(fns M g).l d q fr v t s:=fun _ _ h=>(zK M h).l d q fr v t s
theorem aM.bind {α β:Type} {f:Nat→O α} {k:Nat→α→St→O β} (hf:aM f) (hk : ∀ a s,aM (fun g=>k g a s)):aM fun g=>(f g).bind (k g):=fun g g' h=>(hf g g' h).bind fun a s=>hk a s g g' h
theorem Fin.succ {α:Type} {f h:Nat→O α} (k:Fin f) (e : ∀ g,h (g + 1)=f g):Fin h:=by
 obtain⟨g,hg⟩:=k;exact⟨g + 1,by rw [e];exact hg⟩
theorem Es {M:Ms} {g d:Nat} {q:Nm} {fr:Fr} {x:E} {s s':St} {n:Int} (h : (fns M g).e d q fr x s = .ok n s') : s'.fuel≤s.fuel ∧ ∀ q n,(s'.vs q n).map List.length=(s.vs q n).map List.length:=by
 have h1:=(along zl M g).e d q fr x s;have h2:=(along zm M g).e d q fr x s;rw [h] at h1 h2;exact⟨h1,h2⟩
theorem acL {M:Ms} {g d:Nat} {q:Nm} {fr:Fr} {x:E} {s s':St} {n:List Int} (h : (fns M g).es d q fr x s = .ok n s') : s'.fuel≤s.fuel ∧ ∀ q n,(s'.vs q n).map List.length=(s.vs q n).map List.length:=by
 have h1:=(along zl M g).es d q fr x s;have h2:=(along zm M g).es d q fr x s;rw [h] at h1 h2;exact⟨h1,h2⟩
theorem acM {M:Ms} {g d:Nat} {q:Nm} {fr:Fr} {x:S} {s s':St} {n:Fl × Fr} (h : (fns M g).b d q fr x s = .ok n s') : s'.fuel≤s.fuel ∧ ∀ q n,(s'.vs q n).map List.length=(s.vs q n).map List.length:=by
 have h1:=(along zl M g).b d q fr x s;have h2:=(along zm M g).b d q fr x s;rw [h] at h1 h2;exact⟨h1,h2⟩
theorem Td (M:Ms) : ∀ (g d:Nat) (q:Nm) (fr:Fr) (x:E) (s s':St) (l:List Int),(fns M g).es d q fr x s = .ok l s'→l.length=dx x
 | 0,_,_,_,_,_,_,_,h=>by cases h
 | g + 1,d,q,fr,x,s,s',l,h=>by
  change qV (fns M g) d q fr x s=_ at h
  cases x with
  | nil=>cases h;rfl
  | cons x r=>
   change ((fns M g).e d q fr x s).bind (fun n s=>((fns M g).es d q fr r s).bind fun l s=>.ok (n :: l) s)=_ at h
   cases h1 : (fns M g).e d q fr x s with
   | stuck=>rw [h1] at h;cases h
   | stop w s=>rw [h1] at h;cases h
   | ok n s1=>
    rw [h1] at h
    change ((fns M g).es d q fr r s1).bind (fun l s=>.ok (n :: l) s)=_ at h
    cases h2 : (fns M g).es d q fr r s1 with
    | stuck=>rw [h2] at h;cases h
    | stop w s=>rw [h2] at h;cases h
    | ok l2 s2=>
     rw [h2] at h;cases h
     have:=Td M g d q fr r s1 _ l2 h2;simp [dx,this]
  | num _ _=>cases h
  | var _ _ _=>cases h
  | item _ _ _ _=>cases h
  | un _ _ _=>cases h
  | bin _ _ _ _=>cases h
  | app _ _ _ _=>cases h
def vF (fr fr':Fr):Prop:=∀ n,(dN fr' n).isSome=(dN fr n).isSome
theorem vF.trans {a b c:Fr} (h:vF a b) (k:vF b c):vF a c:=fun n=>(k n).trans (h n)
def ed (fr:Fr):O (Fl × Fr)→Prop
 | .ok x _=>vF fr x.2
 | _=>True
theorem ed.bind {α:Type} {fr:Fr} {o:O α} {f : α→St→O (Fl × Fr)} (k : ∀ a s,ed fr (f a s)):ed fr (o.bind f):=by
 cases o with
 | ok a s=>exact k a s
 | stop w s=>trivial
 | stuck=>trivial
theorem ed.Te {fr:Fr} {o:O (Fl × Fr)} {f:Fl × Fr→St→O (Fl × Fr)} (h:ed fr o) (k : ∀ x s,vF fr x.2→ed x.2 (f x s)):ed fr (o.bind f):=by
 cases o with
 | ok a s=>
  have:=k a s h
  show ed fr (f a s)
  cases hf : f a s with
  | ok x s=>rw [hf] at this;exact vF.trans h this
  | stop w s=>trivial
  | stuck=>trivial
 | stop w s=>trivial
 | stuck=>trivial
theorem Tf (q:Nm) (fr:Fr) (n:Nm) (k v:Int) (s:St):ed fr (ic q fr n k v s):=by
 unfold ic
 cases hg : dN fr n with
 | some u=>
  intro j
  show (dN (jZ fr n v) j).isSome=_
  rw [L8];split
  ·next e=>subst e;simp [hg]
  ·rfl
 | none=>
  simp only;split
  ·trivial
  ·split
   ·exact fun _=>rfl
   ·trivial
theorem Md (M:Ms) : ∀ g,(∀ d q fr x s,ed fr ((fns M g).b d q fr x s)) ∧ ∀ d q fr v t s,ed fr ((fns M g).l d q fr v t s)
 | 0=>⟨fun _ _ _ _ _=>trivial,fun _ _ _ _ _ _=>trivial⟩
 | g + 1=>by
  obtain⟨hb,hl⟩:=Md M g;refine⟨fun d q fr x s=>?_,fun d q fr v t s=>?_⟩
  ·show ed fr (mY (fns M g) d q fr x s)
   unfold mY
   split
   ·exact fun _=>rfl
   ·unfold andThen
    refine ed.Te ?_ fun x s h=>?_
    ·cases x with
     | nil=>trivial
     | set p n i v r=>exact ed.bind fun _ _=>ed.bind fun _ _=>ed.bind fun _ _=>Tf _ _ _ _ _ _
     | ifs p v t e r=>exact ed.bind fun _ _=>ed.bind fun n _=>by split <;> exact hb _ _ _ _ _
     | dB p v t r=>exact ed.bind fun _ _=>hl _ _ _ _ _ _
     | ret p v r=>exact ed.bind fun _ _=>ed.bind fun _ _=>fun _=>rfl
     | dD p v r=>exact ed.bind fun _ _=>ed.bind fun _ _=>by split;trivial;exact fun _=>rfl
     | call p v r=>exact ed.bind fun _ _=>ed.bind fun _ _=>fun _=>rfl
    ·split
     ·exact hb _ _ _ _ _
     ·exact fun _=>rfl
  ·show ed fr (uX (fns M g) d q fr v t s)
   refine ed.bind fun n s=>?_
   split
   ·exact fun _=>rfl
   ·refine ed.Te (hb _ _ _ _ _) fun x s h=>?_
    split
    ·exact ed.bind fun _ _=>hl _ _ _ _ _ _
    ·exact fun _=>rfl
theorem Loc.same {lo:List Nm} {fr fr':Fr} (h:Loc lo fr) (k:vF fr fr'):Loc lo fr':=fun n=>by rw [h n,k n]
theorem acN {M:Ms} {g d:Nat} {q:Nm} {fr:Fr} {x:S} {s s':St} {r:Fl × Fr} {lo:List Nm} (hl:Loc lo fr) (h : (fns M g).b d q fr x s = .ok r s'):Loc lo r.2:=by
 have:=(Md M g).1 d q fr x s;rw [h] at this;exact hl.same this
theorem Tg {R:St→St→Prop} (K:Ba R) {F:kM} (h:GJ R F) (d:Nat) (q:Nm) (fr:Fr) (x:S) (s:St):Al R s (nU F d q fr x s):=by
 cases x with
 | nil=>trivial
 | set p n i v r=>
  refine Al.bind K (oZ K _) fun _ s'=>Al.bind K ?_ fun k s'=>Al.bind K (h.e _ _ _ _ _) fun v s'=>KN K _ _ _ _ _ _
  cases i with
  | none=>exact K.refl s'
  | some i=>exact h.e _ _ _ _ _
 | ifs p v t e r=>
  refine Al.bind K (oZ K _) fun _ s'=>Al.bind K (h.e _ _ _ _ _) fun n s'=>?_
  split
  ·exact h.b _ _ _ _ _
  ·exact h.b _ _ _ _ _
 | dB p v t r=>exact Al.bind K (oZ K _) fun _ s'=>h.l _ _ _ _ _ _
 | ret p v r=>exact Al.bind K (oZ K _) fun _ s'=>Al.bind K (h.e _ _ _ _ _) fun _ s'=>K.refl s'
 | dD p v r=>
  refine Al.bind K (oZ K _) fun _ s'=>Al.bind K (h.e _ _ _ _ _) fun n s'=>?_
  split
  ·exact K.refl s'
  ·exact K.out _ _ ‹_›
 | call p v r=>exact Al.bind K (oZ K _) fun _ s'=>Al.bind K (h.e _ _ _ _ _) fun _ s'=>K.refl s'
theorem acO (M:Ms) (g d:Nat) (q:Nm) (fr:Fr) (x:S) (s:St):ed fr (nU (fns M g) d q fr x s):=by
 obtain⟨hb,hl⟩:=Md M g;cases x with
 | nil=>trivial
 | set p n i v r=>exact ed.bind fun _ _=>ed.bind fun _ _=>ed.bind fun _ _=>Tf _ _ _ _ _ _
 | ifs p v t e r=>exact ed.bind fun _ _=>ed.bind fun n _=>by split <;> exact hb _ _ _ _ _
 | dB p v t r=>exact ed.bind fun _ _=>hl _ _ _ _ _ _
 | ret p v r=>exact ed.bind fun _ _=>ed.bind fun _ _=>fun _=>rfl
 | dD p v r=>exact ed.bind fun _ _=>ed.bind fun _ _=>by split;trivial;exact fun _=>rfl
 | call p v r=>exact ed.bind fun _ _=>ed.bind fun _ _=>fun _=>rfl
theorem acP {M:Ms} {g d:Nat} {q:Nm} {fr:Fr} {x:S} {s s':St} {r:Fl × Fr} (h : nU (fns M g) d q fr x s = .ok r s') : s'.fuel≤s.fuel∧(∀ q n,(s'.vs q n).map List.length=(s.vs q n).map List.length)∧vF fr r.2:=by
 have h1:=Tg zl (along zl M g) d q fr x s;have h2:=Tg zm (along zm M g) d q fr x s;have h3:=acO M g d q fr x s;rw [h] at h1 h2 h3;exact⟨h1,h2,h3⟩
end Go.Mq.Run
namespace Go.Mq.Run
open Go Go.RowKit Go.Mq Go.Mq.Tree Go.Mq.Sym
open Go.Mq.Check (Env oL aU aN lM eX iB dx check Out kI F4 fG JV)
theorem Me {α:Type} (k : α→Nm) (v : α→Int) (n:Nm) : ∀ (l:List α) (fr:Fr),(dN (l.foldl (fun f x=>jZ f (k x) (v x)) fr) n).isSome↔n∈l.map k∨(dN fr n).isSome
 | [],fr=>by simp
 | x :: r,fr=>by
  rw [List.foldl_cons,Me k v n r,L8,List.map_cons,List.mem_cons];by_cases h : k x=n
  ·simp [h]
  ·simp [h,Ne.symm h]
theorem acQ {p:aX} {args:List Int} (h : p.params.length≤args.length):Loc (p.params ++ p.vars) (frame p args):=fun n=>by
 unfold frame
 rw [Me (fun n=>n) (fun _=>0),Me (fun(x:Nm × Int)=>x.1) (fun x=>x.2),List.map_id',List.map_fst_zip h,List.mem_append];simp [dN,or_comm]
structure Safe (M:Ms) (N k:Nat):Prop where
 e : ∀ d q m lo fr x s,M q=some m→30≤d + k→d≤30→s.fuel≤N→Loc lo fr→Shape M s.vs→WF x→x.oI→aU (ql M m lo) x=none→Fin fun g=>(fns M g).e d q fr x s
 b : ∀ d q m lo fr x s dd,M q=some m→30≤d + k→d≤30→s.fuel≤N→Loc lo fr→Shape M s.vs→gJ dd x→aN (ql M m lo) x=none→Fin fun g=>(fns M g).b d q fr x s
 l : ∀ d q m lo fr v t s dd,M q=some m→30≤d + k→d≤30→s.fuel≤N→Loc lo fr→Shape M s.vs→WF v→v.oI→aU (ql M m lo) v=none→gJ dd t→aN (ql M m lo) t=none→Fin fun g=>(fns M g).l d q fr v t s
def Ti (M:Ms) (N k:Nat):Prop:=∀ d q m p args s,M q=some m→p∈m.procs→p.params.length≤args.length→30≤d + k→d≤30→s.fuel≤N→Shape M s.vs→Fin fun g=>(fns M g).c d q p args s
section
variable {M:Ms} (hM:zJ M)
include hM
theorem acR {q:Nm} {m:Mod} (hq:M q=some m) {p:aX} (hp : p∈m.procs) : aN (ql M m (p.params ++ p.vars)) p.body=none∧gJ 10 p.body:=by
 have h1:=((kI _ _).1 (hM.fine q m hq)).2.2.1 p hp
 unfold lM at h1
 exact⟨(Option.or_eq_none_iff.1 h1).2,((hM.good q m hq).1.wf.procs p hp).body⟩
theorem Tj {N k:Nat} (h : ∀ k',k=k' + 1→Safe M N k'):Ti M N k:=fun d q m p args s hq hp ha hk hd hf hs=>by
 refine Fin.succ (f:=fun g=>lq (fns M g) d q p args s) ?_ fun _=>rfl
 by_cases vg : d=30
 ·refine⟨0,?_⟩
  show lq (fns M 0) d q p args s≠_
  unfold lq;rw [if_pos vg];intro h;cases h
 ·obtain⟨k',rfl⟩ : ∃ k',k=k' + 1:=⟨k - 1,by omega⟩
  obtain⟨h1,h2⟩:=acR hM hq hp;have hb:=(h k' rfl).b (d + 1) q m _ (frame p args) p.body s 10 hq (by omega) (by omega) hf (acQ ha) hs h2 h1;have e : (fun g=>lq (fns M g) d q p args s)=fun g=>((fns M g).b (d + 1) q (frame p args) p.body s).bind fun r s=>.ok (match r.1 with | .go=>0 | .ret n=>n) s:=by
   funext g;unfold lq;rw [if_neg vg,if_neg (by omega)];rfl
  rw [e];exact Fin.bind (zL M _ _ _ _ _) (fun _ _=>aM.const _) hb fun g a s' _=>.const (by intro h;cases h)
theorem acS {N k:Nat} (hc:Ti M N k) (d:Nat) (q:Nm) (m:Mod) (lo:List Nm) (fr:Fr) (hq:M q=some m) (hk : 30≤d + k) (hd : d≤30) (hl:Loc lo fr) (x:E) : ∀ s,s.fuel≤N→Shape M s.vs→WF x→aU (ql M m lo) x=none→(x.oI→Fin fun g=>(fns M g).e d q fr x s)∧(x.Ar→Fin fun g=>(fns M g).es d q fr x s):=by
 induction x with
 | num p n=>exact fun s _ _ _ _=>⟨fun _=>Fin.succ (f:=fun _=>.ok n s) (.const (by intro h;cases h)) fun _=>rfl,fun h=>h.elim⟩
 | nil=>exact fun s _ _ _ _=>⟨fun h=>h.elim,fun _=>Fin.succ (f:=fun _=>.ok [] s) (.const (by intro h;cases h)) fun _=>rfl⟩
 | var p mm n=>
  refine fun s hf hs hw hx=>⟨fun _=>?_,fun h=>h.elim⟩
  rw [aU] at hx;obtain⟨sy,h1,h2⟩:=Ma hx;have ha : ¬ (0≤sy.args∨0 < sy.len):=by
   intro h;rw [if_pos h] at h2;cases h2
  refine Fin.succ (f:=fun g=>kg M (fns M g) d q fr (.var p mm n) s) ?_ fun _=>rfl
  by_cases hm : mm=[]
  ·subst hm
   rcases SY h1 with⟨hlo,_⟩|⟨hlo,hg|⟨x,_,rfl,_⟩⟩
   ·obtain⟨v,hv⟩:=Option.isSome_iff_exists.1 ((hl n).1 hlo)
    exact⟨0,by simp [kg,hv]⟩
   ·obtain⟨g,hg,_,hgn⟩:=hg
    have hn : dN fr n=none:=by
     cases hv : dN fr n with
     | none=>rfl
     | some v=>exact absurd ((hl n).2 (by simp [hv])) hlo
    obtain⟨l,hl1,hl2⟩:=hs q m hq g hg;rw [hgn] at hl1;have:=SX g;cases l with
    | nil=>simp at hl2;omega
    | cons v r=>exact⟨0,by simp [kg,hn,hl1,fV]⟩
   ·exact absurd (.inl (by simp)) ha
  ·obtain⟨_,mo,hmo,hg|⟨x,_,rfl,_⟩⟩:=L9 hm h1
   ·obtain⟨g,hg,_,hgn⟩:=hg
    obtain⟨l,hl1,hl2⟩:=hs mm mo hmo g hg;rw [hgn] at hl1;have:=SX g;cases l with
    | nil=>simp at hl2;omega
    | cons v r=>exact⟨0,by simp [kg,hm,hl1,fV]⟩
   ·exact absurd (.inl (by simp [tF])) ha
 | item p mm n i ih=>
  refine fun s hf hs hw hx=>⟨fun _=>?_,fun h=>h.elim⟩
  rw [aU] at hx;obtain⟨hx1,hx2⟩:=Option.or_eq_none_iff.1 hx;obtain⟨sy,h1,h2⟩:=Ma hx1;have hsome : (M (bV q mm)).isSome=true:=by
   by_cases hm : mm=[]
   ·subst hm;rw [S9,hq];rfl
   ·obtain⟨_,mo,hmo,_⟩:=L9 hm h1
    rw [Ta hm,hmo];rfl
  refine Fin.succ (f:=fun g=>((fns M g).e d q fr i s).bind fun k s=>ib (s.vs (bV q mm) n) k s) ?_ fun g=>by
   show (if (M (bV q mm)).isSome then _ else _)=_
   rw [if_pos hsome]
  refine Fin.bind (gM M _ _ _ _ _) (fun _ _=>aM.const _) ((ih s hf hs hw.2.2.1 hx2).1 hw.2.2.2) fun g a s' _=>.const ?_
  unfold ib
  split
  ·intro h;cases h
  ·split <;> (intro h;cases h)
 | un p op x ih=>
  refine fun s hf hs hw hx=>⟨fun _=>?_,fun h=>h.elim⟩
  rw [aU] at hx;refine Fin.succ (f:=fun g=>((fns M g).e d q fr x s).bind fun n s=>.ok (if op=[45] then wr (-n) else one (n == 0)) s) ?_ fun g=>rfl
  exact Fin.bind (gM M _ _ _ _ _) (fun _ _=>aM.const _) ((ih s hf hs hw.2.1 hx).1 hw.2.2) fun g a s' _=>.const (by intro h;cases h)
 | bin p op x y ih1 ih2=>
  refine fun s hf hs hw hx=>⟨fun _=>?_,fun h=>h.elim⟩
  rw [aU] at hx;obtain⟨hx1,hx2⟩:=Option.or_eq_none_iff.1 hx;refine Fin.succ (f:=fun g=>((fns M g).e d q fr x s).bind fun a s=>
   if op=[97,110,100]∨op=[111,114] then
    if (a != 0)=decide (op=[111,114]) then .ok (one (a != 0)) s else ((fns M g).e d q fr y s).bind fun b s=>.ok (one (b != 0)) s
   else ((fns M g).e d q fr y s).bind fun b s=>match both op a b with
    | some n=>.ok n s
    | none=>.stop 2 s) ?_ fun g=>rfl
  refine Fin.bind (gM M _ _ _ _ _) (fun a s=>?_) ((ih1 s hf hs hw.2.1.1 hx1).1 hw.2.1.2) fun g a s' hs'=>?_
  ·split
   ·split
    ·exact aM.const _
    ·exact aM.bind (gM M _ _ _ _ _) fun _ _=>aM.const _
   ·exact aM.bind (gM M _ _ _ _ _) fun _ _=>aM.const _
  ·have ha:=Es hs'
   have hy:=(ih2 s' (by omega) (hs.al ha.2) hw.2.2.1 hx2).1 hw.2.2.2;split
   ·split
    ·exact .const (by intro h;cases h)
    ·exact Fin.bind (gM M _ _ _ _ _) (fun _ _=>aM.const _) hy fun g a s' _=>.const (by intro h;cases h)
   ·exact Fin.bind (gM M _ _ _ _ _) (fun _ _=>aM.const _) hy fun g a s' _=>.const (by split <;> (intro h;cases h))
 | cons x r ih1 ih2=>
  refine fun s hf hs hw hx=>⟨fun h=>h.elim,fun _=>?_⟩
  rw [aU] at hx;obtain⟨hx1,hx2⟩:=Option.or_eq_none_iff.1 hx;refine Fin.succ (f:=fun g=>((fns M g).e d q fr x s).bind fun n s=>((fns M g).es d q fr r s).bind fun l s=>.ok (n :: l) s) ?_ fun g=>rfl
  refine Fin.bind (gM M _ _ _ _ _) (fun a s=>aM.bind (Mc M _ _ _ _ _) fun _ _=>aM.const _) ((ih1 s hf hs hw.1.1 hx1).1 hw.1.2) fun g a s' hs'=>?_
  have ha:=Es hs';exact Fin.bind (Mc M _ _ _ _ _) (fun _ _=>aM.const _) ((ih2 s' (by omega) (hs.al ha.2) hw.2.1 hx2).2 hw.2.2) fun g a s' _=>.const (by intro h;cases h)
 | app p mm n l ih=>
  refine fun s hf hs hw hx=>⟨fun _=>?_,fun h=>h.elim⟩
  rw [aU] at hx;obtain⟨hx1,hx2⟩:=Option.or_eq_none_iff.1 hx;obtain⟨sy,h1,h2⟩:=Ma hx1;have ha : 0≤sy.args:=by
   by_cases h : 0≤sy.args
   ·exact h
   ·rw [if_pos h] at h2;cases h2
  rw [if_neg (by simpa using ha)] at h2;have hn : (dx l:Int)=sy.args:=by
   by_cases h : (dx l:Int)≠sy.args
   ·rw [if_pos h] at h2;cases h2
   ·simpa using h
  obtain⟨mo,x,hmo,hxm,yJ,hxa⟩ : ∃ mo x,M (bV q mm)=some mo∧x∈mo.procs∧x.name=n∧(x.params.length:Int)=sy.args:=by
   by_cases hm : mm=[]
   ·subst hm
    rw [S9];rcases SY h1 with⟨_,h,_⟩|⟨_,⟨g,_,rfl,_⟩|⟨x,hx,rfl,yJ⟩⟩
    ·omega
    ·simp at ha
    ·exact⟨m,x,hq,hx,yJ,rfl⟩
   ·rw [Ta hm]
    obtain⟨_,mo,hmo,⟨g,_,rfl,_⟩|⟨x,hx,rfl,yJ⟩⟩:=L9 hm h1
    ·simp [pX] at ha
    ·exact⟨mo,x,hmo,hx,yJ,rfl⟩
  have gN:=acJ (acI hM hmo) hxm;rw [yJ] at gN;refine Fin.succ (f:=fun g=>((fns M g).es d q fr l s).bind fun args s=>(fns M g).c d (bV q mm) x args s) ?_ fun g=>by
   show (match M (bV q mm) with
    | none=>O.stuck
    | some mo=>match mo.procs.find? fun(p:aX)=>p.name == n with
     | none=>.stuck
     | some p=>((fns M g).es d q fr l s).bind fun args s=>(fns M g).c d (bV q mm) p args s)=_
   rw [hmo];simp only;rw [gN]
  refine Fin.bind (Mc M _ _ _ _ _) (fun a s=>acK M _ _ _ _ _) ((ih s hf hs hw.2.2.1 hx2).2 hw.2.2.2) fun g a s' hs'=>?_
  have hal:=acL hs';have hlen:=Td M _ _ _ _ _ _ _ _ hs';exact hc d (bV q mm) mo x a s' hmo hxm (by omega) hk hd (by omega) (hs.al hal.2)
omit hM in
theorem Tk (s:St) : tick s ≠ .stuck:=by unfold tick;split <;> (intro h;cases h)
omit hM in
theorem Tm {s s':St} {u:Unit} (h : tick s = .ok u s') : s.fuel≠0∧s'.fuel + 1=s.fuel∧s'.vs=s.vs:=by
 unfold tick at h
 split at h
 ·cases h
 ·cases h;exact⟨‹_›,by show s.fuel - 1 + 1=_;omega,rfl⟩
omit hM in
theorem Tn (q:Nm) (fr:Fr) (n:Nm) (k v:Int) (s:St) : ic q fr n k v s ≠ .stuck:=by
 unfold ic
 split
 ·intro h;cases h
 ·split
  ·intro h;cases h
  ·split <;> (intro h;cases h)
omit hM in
theorem acT (M:Ms) (d:Nat) (q:Nm) (fr:Fr) (x:S) (s:St):aM fun g=>nU (fns M g) d q fr x s:=by
 cases x with
 | nil=>exact aM.const _
 | set p n i v r=>
  refine aM.bind (aM.const _) fun _ s=>aM.bind ?_ fun _ _=>aM.bind (gM M _ _ _ _ _) fun _ _=>aM.const _
  cases i with
  | none=>exact aM.const _
  | some i=>exact gM M _ _ _ _ _
 | ifs p v t e r=>exact aM.bind (aM.const _) fun _ s=>aM.bind (gM M _ _ _ _ _) fun n s=>by split <;> exact zL M _ _ _ _ _
 | dB p v t r=>exact aM.bind (aM.const _) fun _ s=>Ie M _ _ _ _ _ _
 | ret p v r=>exact aM.bind (aM.const _) fun _ s=>aM.bind (gM M _ _ _ _ _) fun n s=>aM.const _
 | dD p v r=>exact aM.bind (aM.const _) fun _ s=>aM.bind (gM M _ _ _ _ _) fun n s=>aM.const _
 | call p v r=>exact aM.bind (aM.const _) fun _ s=>aM.bind (gM M _ _ _ _ _) fun n s=>aM.const _
def Tp (M:Ms) (N k:Nat):Prop:=∀ d q m lo fr x s,M q=some m→30≤d + k→d≤30→s.fuel≤N→Loc lo fr→Shape M s.vs→WF x→x.oI→aU (ql M m lo) x=none→Fin fun g=>(fns M g).e d q fr x s
omit hM in
theorem acU {N k:Nat} (he:Tp M N k) (hN : ∀ N',N' < N→Safe M N' k) (d:Nat) (q:Nm) (m:Mod) (lo:List Nm) (hq:M q=some m) (hk : 30≤d + k) (hd : d≤30) (x:S) : ∀ fr s dd,s.fuel≤N→Loc lo fr→Shape M s.vs→gJ dd x→aN (ql M m lo) x=none→Fin fun g=>(fns M g).b d q fr x s:=by
 have hgo : ∀ (x:S) (fr:Fr) (s:St),x.len≠0→s.fuel≤N→Loc lo fr→Shape M s.vs→(∀ fr s,s.fuel≤N→Loc lo fr→Shape M s.vs→Fin fun g=>(fns M g).b d q fr (rest x) s)→Fin (fun g=>nU (fns M g) d q fr x s)→Fin fun g=>(fns M g).b d q fr x s:=fun x fr s hn hf hl hs hr h=>by
  refine Fin.succ (f:=fun g=>(nU (fns M g) d q fr x s).bind fun y s=>match y.1 with
   | .go=>(fns M g).b d q y.2 (rest x) s
   | .ret n=>.ok (.ret n,y.2) s) ?_ fun g=>by
    show mY (fns M g) d q fr x s=_
    unfold mY
    rw [if_neg hn];rfl
  refine Fin.bind (acT M d q fr x s) (fun a s=>?_) h fun g a s' hs'=>?_
  ·cases a.1 with
   | go=>exact zL M _ _ _ _ _
   | ret n=>exact aM.const _
  ·obtain⟨h1,h2,h3⟩:=acP hs'
   cases a.1 with
   | go=>exact hr _ _ (by omega) (hl.same h3) (hs.al h2)
   | ret n=>exact .const (by intro h;cases h)
 have BC : ∀ (s:St) (k:Nat→Unit→St→O (Fl × Fr)),s.fuel≤N→Shape M s.vs→(∀ a s,aM fun g=>k g a s)→(∀ s',s'.fuel < N→s'.fuel≤N→Shape M s'.vs→Fin fun g=>k g () s')→Fin fun g=>(tick s).bind (k g):=fun s k hf hs hm h=>by
  refine Fin.bind (f:=fun _=>tick s) (aM.const _) hm (.const (Tk s)) fun g a s' hs'=>?_
  obtain⟨h1,h2,h3⟩:=Tm hs';exact h s' (by omega) (by omega) (by rw [h3];exact hs)
 induction x with
 | nil=>exact fun fr s dd _ _ _ _ _=>Fin.succ (f:=fun _=>.ok (.go,fr) s) (.const (by intro h;cases h)) fun g=>rfl
 | set p n i v r ih=>
  intro fr s dd hf hl hs hw hx;have hx' : (∀ y,i=some y→aU (ql M m lo) y=none)∧aU (ql M m lo) v=none∧aN (ql M m lo) r=none:=by
   cases i with
   | none=>
    rw [Go.Mq.Check.aN] at hx;obtain⟨h1,h2⟩:=Option.or_eq_none_iff.1 hx;exact⟨fun _ h=>(by cases h),(Option.or_eq_none_iff.1 h1).2,h2⟩
   | some y=>
    rw [Go.Mq.Check.aN,aU] at hx;obtain⟨h1,h2⟩:=Option.or_eq_none_iff.1 hx;obtain⟨h3,h4⟩:=Option.or_eq_none_iff.1 h1;exact⟨fun _ h=>(by cases h;exact(Option.or_eq_none_iff.1 h3).2),h4,h2⟩
  obtain⟨hwn,Tq,hwv,hwr⟩:=hw;refine hgo _ fr s (by simp [S.len]) hf hl hs (fun fr s h1 h2 h3=>ih fr s dd h1 h2 h3 hwr hx'.2.2) ?_;refine BC s (fun g _ s=>(GI (fns M g) d q fr i s).bind fun k s=>((fns M g).e d q fr v s).bind fun v s=>ic q fr n k v s) hf hs (fun _ s=>aM.bind ?_ fun _ _=>aM.bind (gM M _ _ _ _ _) fun _ _=>aM.const _) fun s' _ hf' hs'=>?_
  ·cases i with
   | none=>exact aM.const _
   | some i=>exact gM M _ _ _ _ _
  ·have hv : ∀ s,s.fuel≤N→Shape M s.vs→Fin fun g=>(fns M g).e d q fr v s:=fun s h1 h2=>he d q m lo fr v s hq hk hd h1 hl h2 hwv.1.1 hwv.1.2 hx'.2.1
   cases i with
   | none=>
    refine Fin.bind (f:=fun _=>.ok 0 s') (aM.const _) (fun _ _=>aM.bind (gM M _ _ _ _ _) fun _ _=>aM.const _) (.const (by intro h;cases h)) fun g a s2 h2=>?_
    cases h2
    exact Fin.bind (gM M _ _ _ _ _) (fun _ _=>aM.const _) (hv s' hf' hs') fun g a s3 _=>.const (Tn _ _ _ _ _ _)
   | some i=>
    refine Fin.bind (gM M _ _ _ _ _) (fun _ _=>aM.bind (gM M _ _ _ _ _) fun _ _=>aM.const _) (he d q m lo fr i s' hq hk hd hf' hl hs' (Tq i rfl).1.1 (Tq i rfl).1.2 (hx'.1 i rfl)) fun g a s2 h2=>?_
    have ha:=Es h2;exact Fin.bind (gM M _ _ _ _ _) (fun _ _=>aM.const _) (hv s2 (by omega) (hs'.al ha.2)) fun g a s3 _=>.const (Tn _ _ _ _ _ _)
 | ifs p v t e r ih1 ih2 ih3=>
  intro fr s dd hf hl hs hw hx;rw [Go.Mq.Check.aN] at hx;obtain⟨h1,vG⟩:=Option.or_eq_none_iff.1 hx;obtain⟨h2,hxe⟩:=Option.or_eq_none_iff.1 h1;obtain⟨hxv,hxt⟩:=Option.or_eq_none_iff.1 h2;obtain⟨hwv,⟨⟨_,hwt⟩,_,hwe⟩,hwr⟩:=hw;refine hgo _ fr s (by simp [S.len]) hf hl hs (fun fr s h1 h2 h3=>ih3 fr s dd h1 h2 h3 hwr vG) ?_;refine BC s (fun g _ s=>((fns M g).e d q fr v s).bind fun n s=>if n=0 then (fns M g).b d q fr e s else (fns M g).b d q fr t s) hf hs (fun _ s=>aM.bind (gM M _ _ _ _ _) fun n s=>by split <;> exact zL M _ _ _ _ _) fun s' _ hf' hs'=>?_
  refine Fin.bind (gM M _ _ _ _ _) (fun n s=>by split <;> exact zL M _ _ _ _ _) (he d q m lo fr v s' hq hk hd hf' hl hs' hwv.1.1 hwv.1.2 hxv) fun g a s2 h2=>?_
  have ha:=Es h2;split
  ·exact ih2 fr s2 _ (by omega) hl (hs'.al ha.2) hwe hxe
  ·exact ih1 fr s2 _ (by omega) hl (hs'.al ha.2) hwt hxt
 | dB p v t r ih1 ih2=>
  intro fr s dd hf hl hs hw hx;rw [Go.Mq.Check.aN] at hx;obtain⟨h1,vG⟩:=Option.or_eq_none_iff.1 hx;obtain⟨hxv,hxt⟩:=Option.or_eq_none_iff.1 h1;obtain⟨hwv,⟨_,hwt⟩,hwr⟩:=hw;refine hgo _ fr s (by simp [S.len]) hf hl hs (fun fr s h1 h2 h3=>ih2 fr s dd h1 h2 h3 hwr vG) ?_;refine BC s (fun g _ s=>(fns M g).l d q fr v t s) hf hs (fun _ s=>Ie M _ _ _ _ _ _) fun s' hlt hf' hs'=>?_
  exact(hN s'.fuel hlt).l d q m lo fr v t s' _ hq hk hd (Nat.le_refl _) hl hs' hwv.1.1 hwv.1.2 hxv hwt hxt
 | ret p v r ih=>
  intro fr s dd hf hl hs hw hx;rw [Go.Mq.Check.aN] at hx;obtain⟨hxv,vG⟩:=Option.or_eq_none_iff.1 hx;obtain⟨hwv,hwr⟩:=hw;refine hgo _ fr s (by simp [S.len]) hf hl hs (fun fr s h1 h2 h3=>ih fr s dd h1 h2 h3 hwr vG) ?_;refine BC s (fun g _ s=>((fns M g).e d q fr v s).bind fun n s=>.ok (.ret n,fr) s) hf hs (fun _ s=>aM.bind (gM M _ _ _ _ _) fun n s=>aM.const _) fun s' _ hf' hs'=>?_
  exact Fin.bind (gM M _ _ _ _ _) (fun _ _=>aM.const _) (he d q m lo fr v s' hq hk hd hf' hl hs' hwv.1.1 hwv.1.2 hxv) fun g a s2 _=>.const (by intro h;cases h)
 | dD p v r ih=>
  intro fr s dd hf hl hs hw hx;rw [Go.Mq.Check.aN] at hx;obtain⟨hxv,vG⟩:=Option.or_eq_none_iff.1 hx;obtain⟨hwv,hwr⟩:=hw;refine hgo _ fr s (by simp [S.len]) hf hl hs (fun fr s h1 h2 h3=>ih fr s dd h1 h2 h3 hwr vG) ?_;refine BC s (fun g _ s=>((fns M g).e d q fr v s).bind fun n s=>if s.out.length=200 then .stop 6 s else .ok (.go,fr) { s with out:=s.out ++ [n] }) hf hs (fun _ s=>aM.bind (gM M _ _ _ _ _) fun n s=>aM.const _) fun s' _ hf' hs'=>?_
  exact Fin.bind (gM M _ _ _ _ _) (fun _ _=>aM.const _) (he d q m lo fr v s' hq hk hd hf' hl hs' hwv.1.1 hwv.1.2 hxv) fun g a s2 _=>.const (by split <;> (intro h;cases h))
 | call p v r ih=>
  intro fr s dd hf hl hs hw hx;rw [Go.Mq.Check.aN] at hx;obtain⟨hxv,vG⟩:=Option.or_eq_none_iff.1 hx;obtain⟨⟨hwv,_⟩,hwr⟩:=hw;refine hgo _ fr s (by simp [S.len]) hf hl hs (fun fr s h1 h2 h3=>ih fr s dd h1 h2 h3 hwr vG) ?_;refine BC s (fun g _ s=>((fns M g).e d q fr v s).bind fun _ s=>.ok (.go,fr) s) hf hs (fun _ s=>aM.bind (gM M _ _ _ _ _) fun n s=>aM.const _) fun s' _ hf' hs'=>?_
  exact Fin.bind (gM M _ _ _ _ _) (fun _ _=>aM.const _) (he d q m lo fr v s' hq hk hd hf' hl hs' hwv.1.1 hwv.1.2 hxv) fun g a s2 _=>.const (by intro h;cases h)
theorem Tt {N:Nat} (k:Nat) (hk : ∀ k',k=k' + 1→Safe M N k') (hN : ∀ N',N' < N → ∀ k,Safe M N' k):Safe M N k:=by
 have hc:=Tj hM hk;have he:Tp M N k:=fun d q m lo fr x s hq hk hd hf hl hs hw hx hxx=>(acS hM hc d q m lo fr hq hk hd hl x s hf hs hw hxx).1 hx
 have hb:=fun d q m lo fr x s dd hq h1 h2 h3 h4 h5 h6 h7=>acU (M:=M) he (fun N' h=>hN N' h k) d q m lo hq h1 h2 x fr s dd h3 h4 h5 h6 h7
 refine⟨he,hb,fun d q m lo fr v t s dd hq h1 h2 hf hl hs hwv hxv hcv hwt hct=>?_⟩;refine Fin.succ (f:=fun g=>((fns M g).e d q fr v s).bind fun n s=>
  if n=0 then .ok (.go,fr) s else ((fns M g).b d q fr t s).bind fun x s=>match x.1 with
   | .go=>(tick s).bind fun _ s=>(fns M g).l d q x.2 v t s
   | .ret n=>.ok (.ret n,x.2) s) ?_ fun g=>rfl
 have hmb : ∀ (x:Fl × Fr) (s:St),aM fun g=>(match x.1 with
   | .go=>(tick s).bind fun _ s=>(fns M g).l d q x.2 v t s
   | .ret n=>.ok (.ret n,x.2) s:O (Fl × Fr)):=fun x s=>by
  cases x.1 with
  | go=>exact aM.bind (aM.const _) fun _ _=>Ie M _ _ _ _ _ _
  | ret n=>exact aM.const _
 refine Fin.bind (gM M _ _ _ _ _) (fun n s=>?_) (he d q m lo fr v s hq h1 h2 hf hl hs hwv hxv hcv) fun g n s1 hs1=>?_
 ·split
  ·exact aM.const _
  ·exact aM.bind (zL M _ _ _ _ _) hmb
 ·have ha:=Es hs1
  split
  ·exact .const (by intro h;cases h)
  ·refine Fin.bind (zL M _ _ _ _ _) hmb (hb d q m lo fr t s1 dd hq h1 h2 (by omega) hl (hs.al ha.2) hwt hct) fun g x s2 hs2=>?_
   have ha2:=acM hs2;have hl2:=acN hl hs2;cases x.1 with
   | ret n=>exact .const (by intro h;cases h)
   | go=>
    refine Fin.bind (f:=fun _=>tick s2) (aM.const _) (fun _ _=>Ie M _ _ _ _ _ _) (.const (Tk s2)) fun g u s3 hs3=>?_
    obtain⟨k1,k2,k3⟩:=Tm hs3;exact(hN s3.fuel (by omega) k).l d q m lo x.2 v t s3 dd hq h1 h2 (Nat.le_refl _) hl2 (by rw [k3];exact(hs.al ha.2).al ha2.2) hwv hxv hcv hwt hct
theorem safe (N:Nat) : ∀ k,Safe M N k:=by
 induction N using Nat.strongRecOn with
 | ind N Tu=>
  intro k
  induction k with
  | zero=>exact Tt hM 0 (fun k' h=>by omega) Tu
  | succ k ih=>exact Tt hM (k + 1) (fun k' h=>by have e : k=k':=(by omega);subst e;exact ih) Tu
end
end Go.Mq.Run
namespace Go.Mq.Run
open Go Go.RowKit Go.Mq Go.Mq.Tree Go.Mq.Sym
open Go.Mq.Check (Env oL aU aN lM eX iB dx check Out kI gY tH CX eP)
open Go.Mq.Used (touch dn jd dA mF Bn dZ xK)
def ik (g n:List UInt8):E→Prop
 | .num _ _=>False
 | .var _ a b=>a=g∧b=n
 | .item _ a b i=>(a=g∧b=n)∨ik g n i
 | .un _ _ x=>ik g n x
 | .bin _ _ x y=>ik g n x∨ik g n y
 | .app _ a b l=>(a=g∧b=n)∨ik g n l
 | .nil=>False
 | .cons x r=>ik g n x∨ik g n r
def jv (g n:List UInt8):S→Prop
 | .nil=>False
 | .set _ _ i v r=>(∃ x,i=some x∧ik g n x)∨ik g n v∨jv g n r
 | .ifs _ v t e r=>ik g n v∨jv g n t∨jv g n e∨jv g n r
 | .dB _ v t r=>ik g n v∨jv g n t∨jv g n r
 | .ret _ v r=>ik g n v∨jv g n r
 | .dD _ v r=>ik g n v∨jv g n r
 | .call _ v r=>ik g n v∨jv g n r
def vH (g n:List UInt8) (m:Mod):Prop:=(∃ x∈m.procs,jv g n x.body)∨jv g n m.body
theorem Mf {g m n:List UInt8} {l:List (List UInt8)} (hg : g≠[]) (k:List UInt8) : k∈touch g m n l↔k∈l∨(m=g∧n=k):=by
 unfold touch
 split
 ·next h=>simp [h.1,eq_comm]
 ·next h=>
  constructor
  ·exact .inl
  ·rintro(h1|⟨h1,h2⟩)
   ·exact h1
   ·by_cases hk : n∈l
    ·exact h2 ▸ hk
    ·exact absurd ⟨h1,hg,hk⟩ h
theorem zM {g:List UInt8} (hg : g≠[]) (k:List UInt8) (e:E) : ∀ l,k∈dn g e l↔k∈l∨ik g k e:=by
 induction e with
 | num p n=>intro l;simp [dn,ik]
 | var p a b=>intro l;simp only [dn,ik,Mf hg]
 | item p a b i ih=>intro l;simp only [dn,ik,ih,Mf hg,or_assoc]
 | un p op x ih=>intro l;simp only [dn,ik,ih]
 | bin p op x y ih1 ih2=>intro l;simp only [dn,ik,ih1,ih2,or_assoc]
 | app p a b l2 ih=>intro l;simp only [dn,ik,ih,Mf hg,or_assoc]
 | nil=>intro l;simp [dn,ik]
 | cons x r ih1 ih2=>intro l;simp only [dn,ik,ih1,ih2,or_assoc]
theorem acX {g:List UInt8} (hg : g≠[]) (k:List UInt8) (o:Option E) (l:List (List UInt8)) : k∈jd g o l↔k∈l ∨ ∃ x,o=some x∧ik g k x:=by
 cases o with
 | none=>simp [jd]
 | some x=>simp [jd,zM hg]
theorem Tv {g:List UInt8} (hg : g≠[]) (k:List UInt8) (s:S) : ∀ l,k∈dA g s l↔k∈l∨jv g k s:=by
 induction s with
 | nil=>intro l;simp [dA,jv]
 | set p n i v r ih=>intro l;simp only [dA,jv,ih,zM hg,acX hg,or_assoc]
 | ifs p v t e r ih1 ih2 ih3=>intro l;simp only [dA,jv,ih1,ih2,ih3,zM hg,or_assoc]
 | dB p v t r ih1 ih2=>intro l;simp only [dA,jv,ih1,ih2,zM hg,or_assoc]
 | ret p v r ih=>intro l;simp only [dA,jv,ih,zM hg,or_assoc]
 | dD p v r ih=>intro l;simp only [dA,jv,ih,zM hg,or_assoc]
 | call p v r ih=>intro l;simp only [dA,jv,ih,zM hg,or_assoc]
theorem Tw {g:List UInt8} (hg : g≠[]) (k:List UInt8) : ∀ (ps:List aX) (l:List (List UInt8)),k∈mF g ps l↔k∈l ∨ ∃ x∈ps,jv g k x.body
 | [],l=>by simp [mF]
 | x :: r,l=>by
  have:=Tw hg k r (dA g x.body l)
  unfold mF at this ⊢
  rw [List.foldl_cons,this,Tv hg];simp [or_assoc]
theorem Mg {g:List UInt8} (hg : g≠[]) (k:List UInt8) (m:Mod) : k∈dZ g m↔vH g k m:=by
 rw [dZ,List.mem_mergeSort,Bn,Tv hg,Tw hg,vH];simp
structure uB (s s':Sy):Prop where
 proc : 0≤s.args↔0≤s'.args
 args : 0≤s.args→s.args=s'.args
 len : ¬ 0≤s.args→(0 < s.len↔0 < s'.len)
theorem uB.rfl (s:Sy):uB s s:=⟨Iff.rfl,fun _=>Eq.refl _,fun _=>Iff.rfl⟩
def zN (a b:oL):Prop:=∀ s,a = .is s → ∃ s',b = .is s'∧uB s s'
theorem zN.rfl (a:oL):zN a a:=fun s h=>⟨s,h,.rfl s⟩
theorem Mh {c c':Env} {p:Nat} {m n:List UInt8} {f:Sy→eP} (h:zN (c.find p m n) (c'.find p m n)) (hf : ∀ s s',uB s s'→f s=none→f s'=none) (k : iB c p m n f=none) : iB c' p m n f=none:=by
 unfold iB at k ⊢
 cases hc : c.find p m n with
 | bad e q=>rw [hc] at k;cases k
 | is s=>
  rw [hc] at k;obtain⟨s',h1,h2⟩:=h s hc;rw [h1];exact hf s s' h2 k
theorem acY {p:Nat} (s s':Sy) (h:uB s s') (k : (if 0≤s.args∨0 < s.len then some (1,p) else none:eP)=none) : (if 0≤s'.args∨0 < s'.len then some (1,p) else none:eP)=none:=by
 split at k
 ·cases k
 ·next hn=>
  have h1 : ¬ 0≤s.args:=fun e=>hn (.inl e)
  rw [if_neg];rintro(e|e)
  ·exact h1 (h.proc.2 e)
  ·exact hn (.inr ((h.len h1).2 e))
theorem acZ {p:Nat} (s s':Sy) (h:uB s s') (k : (if 0≤s.args∨¬ 0 < s.len then some (1,p) else none:eP)=none) : (if 0≤s'.args∨¬ 0 < s'.len then some (1,p) else none:eP)=none:=by
 split at k
 ·cases k
 ·next hn=>
  have h1 : ¬ 0≤s.args:=fun e=>hn (.inl e)
  rw [if_neg];rintro(e|e)
  ·exact h1 (h.proc.2 e)
  ·exact hn (.inr fun e2=>e ((h.len h1).1 e2))
theorem ac0 {p k:Nat} (s s':Sy) (h:uB s s') (hk : (if ¬ 0≤s.args then some (1,p) else if (k:Int)≠s.args then some (2,p) else none:eP)=none) : (if ¬ 0≤s'.args then some (1,p) else if (k:Int)≠s'.args then some (2,p) else none:eP)=none:=by
 split at hk
 ·cases hk
 ·next h1=>
  have h1 : 0≤s.args:=Classical.not_not.1 h1;rw [if_neg (Classical.not_not.2 (h.proc.1 h1)),← h.args h1];exact hk
theorem ny {c c':Env} : ∀ e,(∀ p m n,ik m n e→zN (c.find p m n) (c'.find p m n))→aU c e=none→aU c' e=none
 | .num _ _,_,_=>rfl
 | .var p m n,h,k=>by
  rw [aU] at k ⊢;exact Mh (h p m n ⟨rfl,rfl⟩) acY k
 | .item p m n i,h,k=>by
  rw [aU,Option.or_eq_none_iff] at k ⊢;exact⟨Mh (h p m n (.inl ⟨rfl,rfl⟩)) acZ k.1,ny i (fun p m n hr=>h p m n (.inr hr)) k.2⟩
 | .un _ _ x,h,k=>by
  rw [aU] at k ⊢;exact ny x (fun p m n hr=>h p m n hr) k
 | .bin _ _ x y,h,k=>by
  rw [aU,Option.or_eq_none_iff] at k ⊢;exact⟨ny x (fun p m n hr=>h p m n (.inl hr)) k.1,ny y (fun p m n hr=>h p m n (.inr hr)) k.2⟩
 | .app p m n l,h,k=>by
  rw [aU,Option.or_eq_none_iff] at k ⊢;exact⟨Mh (h p m n (.inl ⟨rfl,rfl⟩)) ac0 k.1,ny l (fun p m n hr=>h p m n (.inr hr)) k.2⟩
 | .nil,_,_=>rfl
 | .cons x r,h,k=>by
  rw [aU,Option.or_eq_none_iff] at k ⊢;exact⟨ny x (fun p m n hr=>h p m n (.inl hr)) k.1,ny r (fun p m n hr=>h p m n (.inr hr)) k.2⟩
theorem Tx {c c':Env} (ho : ∀ p n,zN (c.find p [] n) (c'.find p [] n)) (s:S) (h : ∀ p m n,jv m n s→zN (c.find p m n) (c'.find p m n)) (k : aN c s=none) : aN c' s=none:=by
 induction s with
 | nil=>rfl
 | set p n i v r ih=>
  cases i with
  | none=>
   rw [Go.Mq.Check.aN,Option.or_eq_none_iff,Option.or_eq_none_iff] at k ⊢;refine⟨⟨ny _ (fun p m n hr=>?_) k.1.1,ny v (fun p m n hr=>h p m n (.inr (.inl hr))) k.1.2⟩,ih (fun p m n hr=>h p m n (.inr (.inr hr))) k.2⟩;obtain⟨rfl,_⟩:=hr;exact ho _ _
  | some i=>
   rw [Go.Mq.Check.aN,Option.or_eq_none_iff,Option.or_eq_none_iff] at k ⊢;refine⟨⟨ny _ (fun p m n hr=>?_) k.1.1,ny v (fun p m n hr=>h p m n (.inr (.inl hr))) k.1.2⟩,ih (fun p m n hr=>h p m n (.inr (.inr hr))) k.2⟩;rcases hr with⟨rfl,_⟩|hr
   ·exact ho _ _
   ·exact h p m n (.inl ⟨i,rfl,hr⟩)
 | ifs p v t e r ih1 ih2 ih3=>
  rw [Go.Mq.Check.aN,Option.or_eq_none_iff,Option.or_eq_none_iff,Option.or_eq_none_iff] at k ⊢;exact⟨⟨⟨ny v (fun p m n hr=>h p m n (.inl hr)) k.1.1.1,ih1 (fun p m n hr=>h p m n (.inr (.inl hr))) k.1.1.2⟩,ih2 (fun p m n hr=>h p m n (.inr (.inr (.inl hr)))) k.1.2⟩,ih3 (fun p m n hr=>h p m n (.inr (.inr (.inr hr)))) k.2⟩
 | dB p v t r ih1 ih2=>
  rw [Go.Mq.Check.aN,Option.or_eq_none_iff,Option.or_eq_none_iff] at k ⊢;exact⟨⟨ny v (fun p m n hr=>h p m n (.inl hr)) k.1.1,ih1 (fun p m n hr=>h p m n (.inr (.inl hr))) k.1.2⟩,ih2 (fun p m n hr=>h p m n (.inr (.inr hr))) k.2⟩
 | ret p v r ih=>
  rw [Go.Mq.Check.aN,Option.or_eq_none_iff] at k ⊢;exact⟨ny v (fun p m n hr=>h p m n (.inl hr)) k.1,ih (fun p m n hr=>h p m n (.inr hr)) k.2⟩
 | dD p v r ih=>
  rw [Go.Mq.Check.aN,Option.or_eq_none_iff] at k ⊢;exact⟨ny v (fun p m n hr=>h p m n (.inl hr)) k.1,ih (fun p m n hr=>h p m n (.inr hr)) k.2⟩
 | call p v r ih=>
  rw [Go.Mq.Check.aN,Option.or_eq_none_iff] at k ⊢;exact⟨ny v (fun p m n hr=>h p m n (.inl hr)) k.1,ih (fun p m n hr=>h p m n (.inr hr)) k.2⟩
def BD (seen:List UInt8→Option (List Sy)) (g n:List UInt8):Option Sy:=(jB ((seen g).getD []) n).map fun k=>((seen g).getD []).getD k Sy.none
theorem Ty {own:List UInt8} {seen seen':List UInt8→Option (List Sy)} : ∀ (l had:List (List UInt8)),(∀ n∈l,(seen' n).isSome)→gY own seen had l=none→gY own seen' had l=none
 | [],_,_,_=>rfl
 | x :: r,had,h,k=>by
  rw [gY] at k ⊢;split at k
  ·cases k
  ·next h1=>
   rw [if_neg h1];split at k
   ·cases k
   ·have:=h x (by simp)
    rw [if_neg (by rw [Option.isNone_iff_eq_none];intro e;rw [e] at this;cases this)];exact Ty r _ (fun n hn=>h n (by simp [hn])) k
theorem ac1 {m:Mod} {seen seen':List UInt8→Option (List Sy)} (hs : ∀ n∈m.imports,(seen' n).isSome) (hr : ∀ g∈m.imports,g≠[] → ∀ n,vH g n m → ∀ s,BD seen g n=some s → ∃ s',BD seen' g n=some s'∧uB s s') (h : check m seen = .fine) : check m seen' = .fine:=by
 rw [kI] at h ⊢;obtain⟨h1,h2,h3,h4⟩:=h;have hfind : ∀ (lo:List (List UInt8)) p g n,(g=[]∨vH g n m)→zN (Env.find ⟨m.imports,seen,lo,m.vars,m.procs⟩ p g n) (Env.find ⟨m.imports,seen',lo,m.vars,m.procs⟩ p g n):=fun lo p g n hg s hsm=>by
  by_cases hgn : g=[]
  ·subst hgn
   exact⟨s,hsm,.rfl s⟩
  ·have hg:=hg.resolve_left hgn
   unfold Env.find at hsm ⊢
   rw [if_pos hgn] at hsm ⊢;simp only at hsm ⊢;split at hsm
   ·cases hsm
   ·next hi=>
    rw [if_neg hi];have hi:=Classical.not_not.1 hi;cases hk : jB ((seen g).getD []) n with
    | none=>rw [hk] at hsm;cases hsm
    | some k=>
     rw [hk] at hsm;simp only at hsm;cases hsm
     obtain⟨s',h5,h6⟩:=hr g hi hgn n hg _ (by rw [BD,hk];rfl)
     unfold BD at h5
     cases hk' : jB ((seen' g).getD []) n with
     | none=>rw [hk'] at h5;cases h5
     | some k'=>
      rw [hk'] at h5;simp only [Option.map_some,Option.some.injEq] at h5;exact⟨s',by rw [← h5],h6⟩
 refine⟨Ty _ _ hs h1,h2,fun x hx=>?_,Tx (fun p n=>hfind _ p [] n (.inl rfl)) _ (fun p g n hr=>hfind _ p g n (.inr (.inr hr))) h4⟩;have:=h3 x hx;rw [lM,Option.or_eq_none_iff] at this ⊢;exact⟨this.1,Tx (fun p n=>hfind _ p [] n (.inl rfl)) _ (fun p g n hr=>hfind _ p g n (.inr (.inl ⟨x,hx,hr⟩))) this.2⟩
theorem Tz {a b r t:List UInt8} (ha : (10:UInt8)∉a) (hb : (10:UInt8)∉b) (h : a ++ 10 :: r=b ++ 10 :: t) : a=b∧r=t:=by
 induction a generalizing b with
 | nil=>
  cases b with
  | nil=>simpa using h
  | cons y b=>simp at h;exact absurd (by simp [← h.1]) hb
 | cons x a ih=>
  cases b with
  | nil=>simp at h;exact absurd (by simp [h.1]) ha
  | cons y b=>
   simp only [List.cons_append,List.cons.injEq] at h;obtain⟨h1,h2⟩:=ih (fun hm=>ha (List.mem_cons_of_mem _ hm)) (fun hm=>hb (List.mem_cons_of_mem _ hm)) h.2;exact⟨by rw [h.1,h1],h2⟩
def Line (t:List UInt8):Prop:=∃ u,t=u ++ [10]∧(10:UInt8)∉u
theorem TA {α:Type} {f g : α→List UInt8} : ∀ {l:List α},(∀ x∈l,Line (f x)∧Line (g x))→l.flatMap f=l.flatMap g → ∀ x∈l,f x=g x
 | [],_,_=>by simp
 | x :: r,h,k=>by
  obtain⟨⟨u,hu,hu2⟩,v,hv,hv2⟩:=h x (by simp);rw [List.flatMap_cons,List.flatMap_cons,hu,hv] at k;simp only [List.append_assoc,List.singleton_append] at k;obtain⟨h1,h2⟩:=Tz hu2 hv2 k;intro y hy;rcases List.mem_cons.1 hy with rfl|hy
  ·rw [hu,hv,h1]
  ·exact TA (fun x hx=>h x (by simp [hx])) h2 y hy
theorem TB {l:List UInt8} (h : ∀ x∈l,wz x=true) : (10:UInt8)∉l:=fun hm=>by
 have:=h _ hm;simp [wz,letter,digit] at this
theorem ac2 {n:List UInt8} (h:Tree.Nm n) : (10:UInt8)∉n:=by
 obtain⟨⟨c,r,rfl,hc,hr⟩,_⟩:=h;refine TB fun x hx=>?_
 rcases List.mem_cons.1 hx with rfl|hx
 ·simp [wz,hc]
 ·exact hr x hx
theorem Ig {n:Int} (h : 0≤n) : (10:UInt8)∉Lib.itoa n:=by
 obtain⟨c,r,e,hc,hr⟩:=Pw h;rw [e];refine TB fun x hx=>?_
 rcases List.mem_cons.1 hx with rfl|hx
 ·simp [wz,hc]
 ·simp [wz,hr x hx]
theorem ac3 {a b:Int} (ha : 0≤a) (ha2 : a≤9223372036854775807) (hb : 0≤b) (hb2 : b≤9223372036854775807) (h:Lib.itoa a=Lib.itoa b) : a=b:=by
 have h1:=Px ha ha2;have h2:=Px hb hb2;rw [h,h2] at h1;cases h1;rfl
end Go.Mq.Run
namespace Go.Mq.Run
open Go Go.RowKit Go.Mq Go.Mq.Tree Go.Mq.Sym
open Go.Mq.Check (Env oL aU aN lM eX iB dx check Out kI gY tH CX eP fG)
open Go.Mq.Used (dZ Hd)
theorem ac4 {s s':Sy} (hf : s.fit) (hf' : s'.fit) (hn : s.name=s'.name) (h : jA s=jA s'):uB s s':=by
 rw [jA,jA,← hn] at h;by_cases h1 : 0≤s.args <;> by_cases h2 : 0≤s'.args
 ·rw [if_pos h1,if_pos h2] at h
  simp only [List.append_assoc] at h;have h:=List.append_cancel_left (List.append_cancel_left (List.append_cancel_left h));have h3:=(Tz (Ig h1) (Ig h2) (r:=[]) (t:=[]) h).1;have:=ac3 h1 (by have:=hf.JZ;omega) h2 (by have:=hf'.JZ;omega) h3;exact⟨by omega,fun _=>this,fun hn=>absurd h1 hn⟩
 ·rw [if_pos h1,if_neg h2] at h
  split at h <;> (simp at h)
 ·rw [if_neg h1,if_pos h2] at h
  split at h <;> (simp at h)
 ·rw [if_neg h1,if_neg h2] at h
  by_cases h3 : 0 < s.len <;> by_cases h4 : 0 < s'.len
  ·exact⟨by omega,fun e=>absurd e h1,fun _=>by omega⟩
  ·rw [if_pos h3,if_neg h4] at h;simp at h
  ·rw [if_neg h3,if_pos h4] at h;simp at h
  ·exact⟨by omega,fun e=>absurd e h1,fun _=>by omega⟩
theorem ac5 {s:Sy} (h : (10:UInt8)∉s.name):Line (jA s):=by
 rw [jA];split
 ·next h1=>exact⟨[112,114,111,99,32] ++ s.name ++ [32] ++ Lib.itoa s.args,rfl,by have:=Ig h1;simp [h,this]⟩
 ·split
  ·next h1=>exact⟨[97,114,114,97,121,32] ++ s.name ++ [32] ++ Lib.itoa s.len,rfl,by have:=Ig (n:=s.len) (by omega);simp [h,this]⟩
  ·exact⟨[105,110,116,32] ++ s.name,rfl,by simp [h]⟩
theorem TC {l:List Sy} {n:List UInt8} (h : (10:UInt8)∉n):Line (kW l n):=by
 rw [kW];cases hk : jB l n with
 | none=>exact⟨[110,111,110,101,32] ++ n,rfl,by simp [h]⟩
 | some k=>exact ac5 (by rw [(Ic hk).2];exact h)
theorem ac6 {s:Sy} {n:List UInt8} : jA s≠[110,111,110,101,32] ++ n ++ [10]:=by
 rw [jA];split
 ·simp
 ·split <;> simp
theorem ac7 {l l':List Sy} (hl : ∀ s∈l,s.fit) (hl' : ∀ s∈l',s.fit) {n:List UInt8} (h : kW l n=kW l' n) {k:Nat} (hk : jB l n=some k) : ∃ k',jB l' n=some k'∧uB (l.getD k Sy.none) (l'.getD k' Sy.none):=by
 rw [kW,kW,hk] at h;simp only at h;cases hk' : jB l' n with
 | none=>rw [hk'] at h;exact absurd h ac6
 | some k'=>
  rw [hk'] at h;obtain⟨h1,h2⟩:=Ic hk;obtain⟨h3,h4⟩:=Ic hk';exact⟨k',rfl,ac4 (hl _ h1) (hl' _ h3) (by rw [h2,h4]) h⟩
theorem Mi {m:Mod} (h:lW m) : ∀ s∈ofM m,s.fit:=Zj h.wf.vars h.wf.procs
theorem o7 {g n:List UInt8} : ∀ {e:E},WF e→ik g n e→Tree.Nm n
 | .num _ _,_,h=>h.elim
 | .var _ _ _,hw,h=>h.2 ▸ hw.2
 | .item _ _ _ i,hw,h=>by
  rcases h with h|h
  ·exact h.2 ▸ hw.2.1
  ·exact o7 hw.2.2.1 h
 | .un _ _ x,hw,h=>o7 (e:=x) hw.2.1 h
 | .bin _ _ x y,hw,h=>by
  rcases h with h|h
  ·exact o7 hw.2.1.1 h
  ·exact o7 hw.2.2.1 h
 | .app _ _ _ l,hw,h=>by
  rcases h with h|h
  ·exact h.2 ▸ hw.2.1
  ·exact o7 hw.2.2.1 h
 | .nil,_,h=>h.elim
 | .cons x r,hw,h=>by
  rcases h with h|h
  ·exact o7 hw.1.1 h
  ·exact o7 hw.2.1 h
theorem TD {g n:List UInt8} {s:S} : ∀ {d:Nat},gJ d s→jv g n s→Tree.Nm n:=by
 induction s with
 | nil=>intro d hw h;exact h.elim
 | set p m i v r ih=>
  intro d hw h;rcases h with⟨x,hx,h⟩|h|h
  ·exact o7 (hw.2.1 x hx).1.1 h
  ·exact o7 hw.2.2.1.1.1 h
  ·exact ih hw.2.2.2 h
 | ifs p v t e r ih1 ih2 ih3=>
  intro d hw h;rcases h with h|h|h|h
  ·exact o7 hw.1.1.1 h
  ·exact ih1 hw.2.1.1.2 h
  ·exact ih2 hw.2.1.2.2 h
  ·exact ih3 hw.2.2 h
 | dB p v t r ih1 ih2=>
  intro d hw h;rcases h with h|h|h
  ·exact o7 hw.1.1.1 h
  ·exact ih1 hw.2.1.2 h
  ·exact ih2 hw.2.2 h
 | ret p v r ih=>intro d hw h;rcases h with h|h;exact o7 hw.1.1.1 h;exact ih hw.2 h
 | dD p v r ih=>intro d hw h;rcases h with h|h;exact o7 hw.1.1.1 h;exact ih hw.2 h
 | call p v r ih=>intro d hw h;rcases h with h|h;exact o7 hw.1.1.1.1 h;exact ih hw.2 h
theorem ac8 {g n:List UInt8} {m:Mod} (hw:CL m) (h:vH g n m):Tree.Nm n:=by
 rcases h with⟨x,hx,h⟩|h
 ·exact TD (hw.procs x hx).body h
 ·exact TD hw.body h
theorem ac9 {mq old m:Mod} {seen seen':List UInt8→Option (List Sy)} (hq:lW mq) (ho:lW old) (hm:lW m) (h1 : seen m.name=some (ofM old)) (h2 : seen' m.name=some (ofM m)) (h3 : ∀ g,g≠m.name→seen' g=seen g)
  (hn : fT (ofM old) (dZ m.name mq)=fT (ofM m) (dZ m.name mq)) (h : check mq seen = .fine) : check mq seen' = .fine:=by
 have hc:=(kI _ _).1 h;refine ac1 (fun g hg=>?_) (fun g hg hgn n hr s hs=>?_) h
 ·by_cases e : g=m.name
  ·rw [e,h2];rfl
  ·rw [h3 g e];exact tH _ _ hc.1 g hg
 ·by_cases e : g=m.name
  ·subst e
   unfold BD at hs ⊢
   rw [h1] at hs;rw [h2];simp only [Option.getD_some] at hs ⊢;cases hk : jB (ofM old) n with
   | none=>rw [hk] at hs;cases hs
   | some k=>
    rw [hk] at hs;cases hs
    have ac' : ∀ n∈dZ m.name mq,kW (ofM old) n=kW (ofM m) n:=TA (fun x hx=>by
     have hx:=ac2 (ac8 hq.wf ((Mg hgn x mq).1 hx));exact⟨TC hx,TC hx⟩) hn
    obtain⟨k',hk',he⟩:=ac7 (Mi ho) (Mi hm) (ac' n ((Mg hgn n mq).2 hr)) hk;exact⟨_,by rw [hk'];rfl,he⟩
  ·rw [BD,h3 g e]
   exact⟨s,hs,.rfl s⟩
theorem Ih {m:Mod} {seen seen':List UInt8→Option (List Sy)} (h : ∀ g∈m.imports,seen' g=seen g) : check m seen'=check m seen:=by
 have hb : ∀ lo s,aN ⟨m.imports,seen',lo,m.vars,m.procs⟩ s=aN ⟨m.imports,seen,lo,m.vars,m.procs⟩ s:=fun lo s=>Go.Mq.Check.YD (Go.Mq.Check.YF h) s
 have hp : ∀ l,Go.Mq.Check.eX m seen' l=Go.Mq.Check.eX m seen l:=fun l=>by
  induction l with
  | nil=>rfl
  | cons x r ih=>rw [Go.Mq.Check.eX,Go.Mq.Check.eX,ih,lM,lM,hb]
 unfold check
 rw [CX _ _ h,hp,hb]
theorem TE {own:List UInt8} {seen:List UInt8→Option (List Sy)} : ∀ (l had:List (List UInt8)),gY own seen had l=none→own∉l
 | [],_,_=>by simp
 | x :: r,had,h=>by
  rw [gY] at h;split at h
  ·cases h
  ·next h1=>
   split at h
   ·cases h
   ·intro hm
    rcases List.mem_cons.1 hm with e|hm
    ·exact h1 (.inl e.symm)
    ·exact TE r _ h hm
def nz (M:Ms) (a b:Nm):Prop:=∃ m,M b=some m∧a∈m.imports
inductive Reach (M:Ms):Nm→Nm→Prop where
 | refl (a:Nm):Reach M a a
 | step {a b c:Nm} : nz M b a→Reach M b c→Reach M a c
structure Inv (W:Wd):Prop where
 ok:zJ W.M
 shape : ∀ q n,(W.vs q n).map List.length=((W.M q).bind fun m=>lU m.vars n).map List.length
 nodup:W.order.Nodup
 order : ∀ q,q∈W.order↔(W.M q).isSome
 few:W.order.length≤10
 BF : ∀ q,Acc (nz W.M) q
theorem Inv.zero:Inv Wd.zero:=⟨⟨fun _ _ h=>(by cases h),fun _ _ h=>(by cases h)⟩,fun _ _=>rfl,List.nodup_nil,fun _=>by simp [Wd.zero],by simp [Wd.zero],fun q=>⟨_,fun a ⟨_,h,_⟩=>by cases h⟩⟩
theorem TF {α:Type} {P:List α→Prop} (h0:P []) (h1 : ∀ l x,P l→P (l ++ [x])) (l:List α):P l:=by
 have : ∀ l:List α,P l.reverse:=fun l=>by
  induction l with
  | nil=>exact h0
  | cons x r ih=>rw [List.reverse_cons];exact h1 _ _ ih
 have:=this l.reverse
 rwa [List.reverse_reverse] at this
theorem Et {l:List bJ} : ∀ (_ : (l.map (·.name)).Nodup) {g:bJ} (_ : g∈l),lU l g.name=some (zeros (jm g)):=by
 refine TF (P:=fun l=>∀ (_ : (l.map (·.name)).Nodup) {g:bJ} (_ : g∈l),lU l g.name=some (zeros (jm g))) ?_ ?_ l
 ·intro _ g hg;cases hg
 ·intro l x ih h g hg
  rw [Lr];rw [List.map_append,List.nodup_append] at h;rcases List.mem_append.1 hg with hg|hg
  ·have : x.name≠g.name:=fun e=>h.2.2 g.name (List.mem_map_of_mem hg) x.name (by simp) e.symm
   simp only [if_neg this];exact ih h.1 hg
  ·simp at hg;subst hg;simp
theorem Mj {M:Ms} (hM:zJ M) {q:Nm} {m:Mod} (hq:M q=some m) : (m.vars.map (·.name)).Nodup:=(List.nodup_append.1 ((kI _ _).1 (hM.fine q m hq)).2.1).1
theorem Inv.shaped {W:Wd} (h:Inv W):Shape W.M W.vs:=fun q m hq g hg=>by
 have:=h.shape q g.name;rw [hq] at this;simp only [Option.bind_some,Et (Mj h.ok hq) hg,Option.map_some] at this;cases hv:W.vs q g.name with
 | none=>rw [hv] at this;cases this
 | some l=>rw [hv] at this;simp [zeros] at this;exact⟨l,rfl,this⟩
end Go.Mq.Run
namespace Go.Mq.Run
open Go Go.RowKit Go.Mq Go.Mq.Tree Go.Mq.Sym
open Go.Mq.Check (Env oL aU aN lM eX iB dx check Out kI gY tH CX eP fG)
open Go.Mq.Used (dZ Hd)
open Classical
def Ii (old m:Mod) (n:Nm):Bool:=m.vars.any fun g=>g.name == n && old.vars.any fun h=>h.name == n && h.len == g.len
def nC (vs:Vs) (old m:Mod):Vs:=fun q n=>if q=m.name then (if Ii old m n then vs q n else lU m.vars n) else vs q n
noncomputable def iE (W:Wd) (m:Mod):Wd × Out:=match W.M m.name with
 | none=>(W,.plain 7)
 | some old=>match check m (dL W.M) with
  | .fine=>
   if ∃ n∈m.imports,Reach W.M n m.name then (W,.plain 11)
   else if ∃ n∈W.order,∃ mn,W.M n=some mn∧fT (ofM old) (dZ m.name mn)≠fT (ofM m) (dZ m.name mn) then (W,.plain 6)
   else (⟨bI W.M m,nC W.vs old m,W.order⟩,.fine)
  | o=>(W,o)
def kr (g:Nat) (W:Wd) (q n:Nm) (args:List Int) (fuel:Nat):Option (Wd × Nat × List Int × Int × Out):=match W.M q with
 | none=>some (W,0,[],0,.plain 7)
 | some m=>match m.procs.find? fun p=>p.name == n && p.seen with
  | none=>some (W,0,[],0,.plain 7)
  | some p=>if args.length≠p.params.length then some (W,0,[],0,.plain 2) else
   match (fns W.M g).c 0 q p args ⟨fuel,[],W.vs⟩ with
   | .stuck=>none
   | .ok n s=>some (⟨W.M,s.vs,W.order⟩,1,s.out,n,.fine)
   | .stop way s=>some (⟨W.M,s.vs,W.order⟩,way,s.out,0,.fine)
theorem qY (M:Ms) (m:Mod) : bI M m m.name=some m:=if_pos rfl
theorem nD (M:Ms) (m:Mod) {q:Nm} (h : q≠m.name) : bI M m q=M q:=if_neg h
theorem Eu (M:Ms) (m:Mod) (q:Nm) : dL (bI M m) q=if q=m.name then some (ofM m) else dL M q:=by
 unfold dL bI
 split <;> rfl
theorem ada {M:Ms} {vs vs':Vs} (h : ∀ q n,(vs q n).map List.length=((M q).bind fun m=>lU m.vars n).map List.length) (k : ∀ q n,(vs' q n).map List.length=(vs q n).map List.length) : ∀ q n,(vs' q n).map List.length=((M q).bind fun m=>lU m.vars n).map List.length:=fun q n=>(k q n).trans (h q n)
theorem Inv.vals {W:Wd} (h:Inv W) {vs:Vs} (k : ∀ q n,(vs q n).map List.length=(W.vs q n).map List.length):Inv ⟨W.M,vs,W.order⟩:=⟨h.ok,ada h.shape k,h.nodup,h.order,h.few,h.BF⟩
theorem TG {m:Mod} {seen:Nm→Option (List Sy)} (h : check m seen = .fine) : m.name∉m.imports:=TE _ _ ((kI _ _).1 h).1
theorem zJ.more {M:Ms} (h:zJ M) {m:Mod} (hg:lW m) (hn:M m.name=none) (hc : check m (dL M) = .fine):zJ (bI M m):=by
 refine⟨fun q x hx=>?_,fun q x hx=>?_⟩
 ·by_cases e : q=m.name
  ·subst e;rw [qY] at hx;cases hx;exact⟨hg,rfl⟩
  ·rw [nD _ _ e] at hx;exact h.good q x hx
 ·by_cases e : q=m.name
  ·subst e
   rw [qY] at hx;cases hx
   rw [Ih (seen:=dL M)]
   ·exact hc
   ·intro g hg'
    rw [Eu,if_neg];intro e;subst e;exact TG hc hg'
  ·rw [nD _ _ e] at hx
   have hf:=h.fine q x hx;rw [Ih (seen:=dL M)]
   ·exact hf
   ·intro g hg'
    rw [Eu,if_neg];intro e';subst e';have:=tH _ _ ((kI _ _).1 hf).1 _ hg';rw [dL,hn] at this;cases this
theorem Inv.loaded {W:Wd} (h:Inv W) {m:Mod} (hg:lW m) (hn:W.M m.name=none) (hc : check m (dL W.M) = .fine) (hl:W.order.length≠10):Inv ⟨bI W.M m,ig W.vs m,W.order ++ [m.name]⟩:=by
 have hno : m.name∉W.order:=fun hm=>by have:=(h.order m.name).1 hm;rw [hn] at this;cases this
 have himp : ∀ a b,b≠m.name→(nz (bI W.M m) a b↔nz W.M a b):=fun a b hb=>by unfold nz;rw [nD _ _ hb]
 have hold : ∀ b,Acc (nz W.M) b→(W.M b).isSome→Acc (nz (bI W.M m)) b:=fun b hb=>by
  induction hb with
  | intro b _ ih=>
   intro hs;have hbn : b≠m.name:=fun e=>by subst e;rw [hn] at hs;cases hs
   refine⟨_,fun a ha=>ih a ((himp a b hbn).1 ha) ?_⟩;obtain⟨mb,hmb,hab⟩:=(himp a b hbn).1 ha;have:=tH _ _ ((kI _ _).1 (h.ok.fine b mb hmb)).1 a hab
   unfold dL at this
   cases hM:W.M a with
   | none=>rw [hM] at this;cases this
   | some _=>rfl
 refine⟨h.ok.more hg hn hc,fun q n=>?_,?_,fun q=>?_,by simp;have:=h.few;omega,fun q=>?_⟩
 ·simp only [ig]
  by_cases e : q=m.name
  ·subst e;rw [if_pos rfl,qY];rfl
  ·rw [if_neg e,nD _ _ e];exact h.shape q n
 ·refine List.nodup_append.2 ⟨h.nodup,by simp,fun a ha b hb=>?_⟩
  simp at hb
  subst hb;intro e;subst e;exact hno ha
 ·simp only [List.mem_append,List.mem_singleton]
  by_cases e : q=m.name
  ·subst e;simp [qY]
  ·rw [nD _ _ e,← h.order q];simp [e]
 ·by_cases hs : (W.M q).isSome
  ·exact hold q (h.BF q) hs
  ·by_cases e : q=m.name
   ·subst e
    refine⟨_,fun a ⟨x,hx,ha⟩=>?_⟩
    change bI W.M m m.name=some x at hx
    rw [qY] at hx;cases hx
    refine hold a (h.BF a) ?_;have:=tH _ _ ((kI _ _).1 hc).1 a ha
    unfold dL at this
    cases hM:W.M a with
    | none=>rw [hM] at this;cases this
    | some _=>rfl
   ·refine⟨_,fun a ⟨x,hx,ha⟩=>?_⟩
    change bI W.M m q=some x at hx
    rw [nD _ _ e] at hx;rw [hx] at hs;exact absurd rfl hs
theorem TH {W:Wd} (h:Inv W) {m:Mod} (hg:lW m) (fuel:Nat) : ∃ g r,jG g W m fuel=some r∧Inv r.1:=by
 unfold jG
 by_cases hs : (W.M m.name).isSome
 ·exact⟨0,_,by rw [if_pos hs],h⟩
 ·have hn:W.M m.name=none:=by cases hM:W.M m.name with|none=>rfl|some _=>rw [hM] at hs;exact absurd rfl hs
  cases hc : check m (dL W.M) with
  | plain e=>exact⟨0,_,by rw [if_neg hs],h⟩
  | at_ e p=>exact⟨0,_,by rw [if_neg hs],h⟩
  | fine=>
   by_cases hl:W.order.length=10
   ·exact⟨0,_,by rw [if_neg hs];simp only;rw [if_pos hl],h⟩
   ·have hI:=h.loaded hg hn hc hl
    have hfe:=(kI _ _).1 (hI.ok.fine m.name m (qY _ _));obtain⟨g,hfin⟩:=(safe hI.ok fuel 30).b 0 m.name m [] [] m.body ⟨fuel,[],ig W.vs m⟩ 10 (qY _ _) (by omega) (by omega) (Nat.le_refl _) (fun n=>by simp [dN]) hI.shaped hg.wf.body hfe.2.2.2;have hal:=(along zm (bI W.M m) g).b 0 m.name [] m.body ⟨fuel,[],ig W.vs m⟩;cases ho : (fns (bI W.M m) g).b 0 m.name [] m.body ⟨fuel,[],ig W.vs m⟩ with
    | stuck=>exact absurd ho hfin
    | ok x s=>
     rw [ho] at hal;exact⟨g,_,by rw [if_neg hs];simp only;rw [if_neg hl,ho],hI.vals hal⟩
    | stop way s=>
     rw [ho] at hal;exact⟨g,_,by rw [if_neg hs];simp only;rw [if_neg hl,ho],hI.vals hal⟩
theorem adb {W:Wd} (h:Inv W) (q n:Nm) (args:List Int) (fuel:Nat) : ∃ g r,kr g W q n args fuel=some r∧Inv r.1:=by
 unfold kr
 cases hq:W.M q with
 | none=>exact⟨0,_,rfl,h⟩
 | some m=>
  simp only;cases hp : m.procs.find? fun p=>p.name == n && p.seen with
  | none=>exact⟨0,_,rfl,h⟩
  | some p=>
   simp only;by_cases ha : args.length≠p.params.length
   ·exact⟨0,_,by rw [if_pos ha],h⟩
   ·obtain⟨g,hfin⟩:=Tj h.ok (N:=fuel) (k:=30) (fun k' _=>safe h.ok fuel k') 0 q m p args ⟨fuel,[],W.vs⟩ hq (List.mem_of_find?_eq_some hp) (by omega) (by omega) (by omega) (Nat.le_refl _) h.shaped
    have hal:=(along zm W.M g).c 0 q p args ⟨fuel,[],W.vs⟩;cases ho : (fns W.M g).c 0 q p args ⟨fuel,[],W.vs⟩ with
    | stuck=>exact absurd ho hfin
    | ok x s=>
     rw [ho] at hal;exact⟨g,_,by rw [if_neg ha,ho],h.vals hal⟩
    | stop way s=>
     rw [ho] at hal;exact⟨g,_,by rw [if_neg ha,ho],h.vals hal⟩
theorem Inv.swapped {W:Wd} (h:Inv W) {m old:Mod} (hg:lW m) (ho:W.M m.name=some old) (hc : check m (dL W.M) = .fine) (hr : ¬ ∃ n∈m.imports,Reach W.M n m.name)
  (hs : ¬ ∃ n∈W.order,∃ mn,W.M n=some mn∧fT (ofM old) (dZ m.name mn)≠fT (ofM m) (dZ m.name mn)):Inv ⟨bI W.M m,nC W.vs old m,W.order⟩:=by
 have hgo:=h.ok.good _ _ ho;refine⟨⟨fun q x hx=>?_,fun q x hx=>?_⟩,fun q n=>?_,h.nodup,fun q=>?_,h.few,?_⟩
 ·by_cases e : q=m.name
  ·subst e;simp only [qY] at hx;cases hx;exact⟨hg,rfl⟩
  ·simp only [nD _ _ e] at hx;exact h.ok.good q x hx
 ·by_cases e : q=m.name
  ·subst e
   simp only [qY] at hx;cases hx
   rw [Ih (seen:=dL W.M)]
   ·exact hc
   ·intro g hg'
    rw [Eu,if_neg];intro e;subst e;exact TG hc hg'
  ·simp only [nD _ _ e] at hx
   refine ac9 (old:=old) (m:=m) (h.ok.good q x hx).1 hgo.1 hg (by rw [dL,ho];rfl) (by rw [Eu,if_pos rfl]) (fun g he=>by rw [Eu,if_neg he]) ?_ (h.ok.fine q x hx);by_cases hne : fT (ofM old) (dZ m.name x)=fT (ofM m) (dZ m.name x)
   ·exact hne
   ·exact absurd ⟨q,(h.order q).2 (by rw [hx];rfl),x,hx,hne⟩ hs
 ·simp only [nC]
  by_cases e : q=m.name
  ·subst e
   rw [if_pos rfl,qY];have hsh:=h.shape m.name n;rw [ho] at hsh;simp only [Option.bind_some] at hsh ⊢;have hnd : (m.vars.map (·.name)).Nodup:=(List.nodup_append.1 ((kI _ _).1 hc).2.1).1;by_cases hk : Ii old m n=true
   ·rw [if_pos hk,hsh]
    simp only [Ii,List.any_eq_true,Bool.and_eq_true,beq_iff_eq] at hk;obtain⟨g,hgm,hgn,o,hom,hon,hlen⟩:=hk;rw [← hgn,Et hnd hgm,hgn,← hon,Et (Mj h.ok ho) hom];simp [zeros,jm,hlen]
   ·rw [if_neg hk]
  ·rw [if_neg e,nD _ _ e];exact h.shape q n
 ·show q∈W.order↔(bI W.M m q).isSome=true
  by_cases e : q=m.name
  ·subst e;rw [qY];have:=(h.order m.name).2 (by rw [ho];rfl);simp [this]
  ·rw [nD _ _ e];exact h.order q
 ·
  have himp : ∀ a b,b≠m.name→(nz (bI W.M m) a b↔nz W.M a b):=fun a b hb=>by unfold nz;rw [nD _ _ hb]
  have adf : ∀ b,Acc (nz W.M) b→¬ Reach W.M b m.name→Acc (nz (bI W.M m)) b:=fun b hb=>by
   induction hb with
   | intro b _ ih=>
    intro hnr;have hbn : b≠m.name:=fun e=>by subst e;exact hnr (.refl _)
    exact⟨_,fun a ha=>ih a ((himp a b hbn).1 ha) fun hra=>hnr (.step ((himp a b hbn).1 ha) hra)⟩
  have hself:Acc (nz (bI W.M m)) m.name:=⟨_,fun a ⟨x,hx,ha⟩=>by
   rw [qY] at hx;cases hx
   exact adf a (h.BF a) fun hra=>hr ⟨a,ha,hra⟩⟩
  intro q;have : ∀ b,Acc (nz W.M) b→Acc (nz (bI W.M m)) b:=fun b hb=>by
   induction hb with
   | intro b _ ih=>
    by_cases e : b=m.name
    ·subst e;exact hself
    ·exact⟨_,fun a ha=>ih a ((himp a b e).1 ha)⟩
  exact this q (h.BF q)
theorem adg {W:Wd} (h:Inv W) {m:Mod} (hg:lW m):Inv (iE W m).1:=by
 unfold iE
 cases ho:W.M m.name with
 | none=>exact h
 | some old=>
  simp only;cases hc : check m (dL W.M) with
  | plain e=>exact h
  | at_ e p=>exact h
  | fine=>
   simp only;split
   ·exact h
   ·next hr=>
    split
    ·exact h
    ·next hs=>exact h.swapped hg ho hc hr hs
end Go.Mq.Run
namespace Go.Mq.Run
open Go Go.RowKit Go.Mq Go.Mq.Tree Go.Mq.Sym
open Go.Mq.fu (bA getM dG jX lL mR kH)
theorem dP.still {w w':World} {Own G:Nat→Prop} {bw:Nat} {W:Wd} (h:dP w Own G bw W) (hc:ae [] w w'):dP w' (More Own w w') G bw W:=by
 have:=h.idle (Gm:=fun _=>False) hc (fun _ h=>h.elim)
 simpa using this
end Go.Mq.Run
namespace Go.Proofs.YtechofppmnnomaaGreatDoor
open Go Go.RowKit Go.Mq Go.Mq.Tree Go.Mq.Sym Go.Mq.Run
open Go.Mq.Check (fG bZ bK dx check Out eQ)
open Go.Mq.fu (bA getM dG jX lL mR kH)
set_option maxRecDepth 100000
set_option maxHeartbeats 4000000
def qm (w:World) (Own G:Nat→Prop) (bw:Nat) (r:Wd × Nat × List Int × Int × Out) (e:Ending) (w':World):Prop:=
 ∃ ve vo,e = .returned (.tuple #[ve,num r.2.2.2.1,vo])∧DW w' w.heap.size r.2.1 r.2.2.1 ve∧qi w' r.2.2.2.2 vo∧dP w' (More Own w w') G bw r.1∧uh Own w w'
theorem qm.no {w w':World} {Own G:Nat→Prop} {bw:Nat} {W:Wd} {o:Out} {vo:Value} (h:dP w Own G bw W) (hc:ae [] w w') (he:qi w' o vo):qm w Own G bw (W,0,[],0,o) (.returned (.tuple #[.agg #[num 0,ah],num 0,vo])) w':=
 ⟨_,_,rfl,⟨ah,rfl,⟨rfl,.inl ⟨rfl,rfl⟩⟩,From.nil _⟩,he,h.still hc,.of hc⟩
theorem qm.done {w wD w9 wF:World} {Own G:Nat→Prop} {bw be bi way:Nat} {W:Wd} {L:Lay} {X:List Nat} {vs:Vs} {out:List Int} {n:Int} {ov:Value} (H:dP w Own G bw W) (HH:Has w Own G bw W L) (hD:ae [] w wD) (h9:Home w9 L vs) (bR:ae (X ++ L.au) wD w9) (hX : ∀ x∈X,x=bi) (hlt : w.heap.size≤be∧w.heap.size≤bi∧be < wD.heap.size∧bi < wD.heap.size)
  (ho : w9.ownsRow 0 bN 1 ov out.length (ints out)) (hf:From wD.heap.size ov) (aZ:ae [be,bi] w9 wF):qm w Own G bw (⟨W.M,vs,W.order⟩,way,out,n,.fine) (.returned (.tuple #[.agg #[num way,ov],num n,.nilIface])) wF:=by
 have hlow:=fun x (hx : w.heap.size≤x)=>HH.home.low hx
 have hs:=hD.size;have D6:=bR.size;have JB:=aZ.size;have hbb : ∀ x∈[be,bi],w.heap.size≤x:=fun x hx=>by simp at hx;rcases hx with rfl|rfl <;> omega
 have jo:=HH.home.lay w.heap.size (Nat.le_refl _);have hZ : ∀ x∈X ++ L.au,¬ L.Fix x:=fun x hx=>by
  rcases List.mem_append.1 hx with hx|hx
  ·rw [hX x hx];exact(hlow bi hlt.2.1).1
  ·exact(jo.au hx).1
 have h10:=(((HH.kept hD (by simp)).went h9 bR hZ).Bp aZ (fun x hx=>hlow x (hbb x hx))).mono (Own':=More Own w wF) (fun x hx=>.inl hx);refine⟨_,_,rfl,⟨ov,rfl,cK ho aZ (fun g hg hm=>?_),fun g hg=>?_⟩,rfl,⟨.inl H.own,fun x hx=>?_,fun x hx hx'=>?_,H.good,H.few,.inr ⟨L,h10⟩⟩,L.au,?_,HH.au⟩
 ·have:=hf g hg;simp at hm;omega
 ·have:=hf g hg;omega
 ·rcases hx with(hx|hx)|hx
  ·have:=H.lt x (.inl hx);omega
  ·exact hx.2
  ·have:=H.lt x (.inr hx);omega
 ·rcases hx with hx|hx
  ·exact H.zF x hx hx'
  ·have:=H.lt x (.inr hx');omega
 ·refine((hD.weak (S:=L.au)).trans bR (fun x hx=>?_)).trans aZ (fun x hx=>.inr (hbb x hx))
  rcases List.mem_append.1 hx with hx|hx
  ·exact .inr (by rw [hX x hx];exact hlt.2.1)
  ·exact .inl hx
theorem BG {w:World} {be bi:Nat} {u0 u1 u2:Value} (h:ag w be #[u0,u1] 43) (hi:ag w bi #[u2] bN) (n k:Int) (v:Value) : ∃ wE,(((w.setCell ⟨be,0,none⟩ (num n)).setCell ⟨be,1,none⟩ v).setCell ⟨bi,0,none⟩ (num k))=wE∧ag wE be #[num n,v] 43∧ag wE bi #[num k] bN:=by
 have hne : be≠bi:=fun e=>by subst e;unfold ag at h hi;rw [h] at hi;simp at hi
 refine⟨_,rfl,((by simpa using (h.set 0 (num n)).set 1 v:ag ((w.setCell ⟨be,0,none⟩ (num n)).setCell ⟨be,1,none⟩ v) be #[num n,v] _)).kept (ae.set1 _ bi _ _) (by simpa using hne),?_⟩;have h2:ag ((w.setCell ⟨be,0,none⟩ (num n)).setCell ⟨be,1,none⟩ v) bi #[u2] bN:=(hi.kept (ae.set1 _ be _ _) (by simpa using hne.symm)).kept (ae.set1 _ be _ _) (by simpa using hne.symm)
 simpa using h2.set 0 (num k)
theorem adh (g:Nat) {w:World} {Own G:Nat→Prop} {bw:Nat} {W:Wd} {q n:Nm} {args:List Int} {a:Option Addr} {c:Nat} {fuel:Nat} {r:Wd × Nat × List Int × Int × Out} (h:dP w Own G bw W) (hq:W.M q=none) (hr : kr g W q n args fuel=some r) :
  Calls Tryz.prog 31 #[ptr bw,str q,str n,.slice a args.length c,num fuel] w (qm w Own G bw r):=by
 obtain⟨pv,oa,oc,hfr⟩:=h.front;obtain⟨o,hlk⟩:=Hl hfr q;rw [hq] at hlk;obtain⟨w0,hw0⟩ : ∃ x,w.alloc (.cells #[str n] 9)=x:=⟨_,rfl⟩
 have hb0:ag w0 w.heap.size #[str n] 9:=by rw [← hw0];exact ag.new w _ _
 have hc0:ae [] w w0:=by rw [← hw0];exact(ae.refl _ _).alloc _
 have hs0 : w0.heap.size=w.heap.size + 1:=by rw [← hw0];simp
 obtain⟨w1,hw1⟩ : ∃ x,w0.alloc (.cells #[.slice a args.length c] 41)=x:=⟨_,rfl⟩
 have hb1:ag w1 w0.heap.size #[.slice a args.length c] 41:=by rw [← hw1];exact ag.new w0 _ _
 have hc1:ae [] w0 w1:=by rw [← hw1];exact(ae.refl _ _).alloc _
 have hs1 : w1.heap.size=w0.heap.size + 1:=by rw [← hw1];simp
 obtain⟨w2,hw2⟩ : ∃ x,w1.alloc (.cells #[num 0,ah] 43)=x:=⟨_,rfl⟩
 have hb2:ag w2 w1.heap.size #[num 0,ah] 43:=by rw [← hw2];exact ag.new w1 _ _
 have hc2:ae [] w1 w2:=by rw [← hw2];exact(ae.refl _ _).alloc _
 have hs2 : w2.heap.size=w1.heap.size + 1:=by rw [← hw2];simp
 obtain⟨w3,hw3⟩ : ∃ x,w2.alloc (.cells #[num 0] bN)=x:=⟨_,rfl⟩
 have hb3:ag w3 w2.heap.size #[num 0] bN:=by rw [← hw3];exact ag.new w2 _ _
 have hc3:ae [] w2 w3:=by rw [← hw3];exact(ae.refl _ _).alloc _
 have hs3 : w3.heap.size=w2.heap.size + 1:=by rw [← hw3];simp
 obtain⟨w4,hw4⟩ : ∃ x,w3.alloc (.cells #[.pointer o] 94)=x:=⟨_,rfl⟩
 have hb4:ag w4 w3.heap.size #[.pointer o] 94:=by rw [← hw4];exact ag.new w3 _ _
 have hc4:ae [] w3 w4:=by rw [← hw4];exact(ae.refl _ _).alloc _
 have hs4 : w4.heap.size=w3.heap.size + 1:=by rw [← hw4];simp
 obtain⟨bn,hbn⟩ : ∃ b,b=w.heap.size:=⟨_,rfl⟩
 obtain⟨ba,jN⟩ : ∃ b,b=w0.heap.size:=⟨_,rfl⟩
 obtain⟨be,hbe⟩ : ∃ b,b=w1.heap.size:=⟨_,rfl⟩
 obtain⟨bi,hbi⟩ : ∃ b,b=w2.heap.size:=⟨_,rfl⟩
 obtain⟨bt,hbt⟩ : ∃ b,b=w3.heap.size:=⟨_,rfl⟩
 have hcw:ae [] w w3:=hc0.then (hc1.then (hc2.then hc3))
 have qH:ae [] w w4:=hcw.then hc4
 have jL:=(((hb0.kept hc1 (by simp)).kept hc2 (by simp)).kept hc3 (by simp)).kept hc4 (by simp);have zO:=((hb1.kept hc2 (by simp)).kept hc3 (by simp)).kept hc4 (by simp);have qZ:=(hb2.kept hc3 (by simp)).kept hc4 (by simp);have hi3:=hb3.kept hc4 (by simp);have hne : w2.heap.size≠w1.heap.size:=by omega
 have hne' : w1.heap.size≠w2.heap.size:=by omega
 have hwb:=hfr.blk.kept hcw (by simp);rw [← hbn] at jL;rw [← jN] at zO;rw [← hbe] at qZ;rw [← hbi] at hi3;rw [← hbt] at hb4;have b0:=hwb.cell 0 _ rfl;have b1:=hwb.cell 1 _ rfl;have TI:=hlk w3 hcw;have dK:=zh (show bn=w.heap.size∧ba=w.heap.size + 1∧be=w.heap.size + 2∧bi=w.heap.size + 3∧bt=w.heap.size + 4∧w4.heap.size=w.heap.size + 5∧bw < w.heap.size by
  have:=h.lt bw (.inl h.own);omega)
 have fK:=zh (fun(wx:World) (hx:ae [] w wx)=>(show ae [] w (((wx.setCell ⟨be,0,none⟩ (num 0)).setCell ⟨be,1,none⟩ ah).setCell ⟨bi,0,none⟩ (num 0)) from hx.trans ((ae.set1 _ _ _ _).then (ae.set1 _ _ _ _)) (fun x hx=>.inr (by have:=dK.out;simp at hx;omega)) |>.trans (ae.set1 _ _ _ _) (fun x hx=>.inr (by have:=dK.out;simp at hx;omega))));have H:=zh h;have HR:=zh hr;have di:=zh hfr;have aB:=zh qH;have HN:=zh jL;have HA:=zh zO;have HE:=zh qZ;have HI:=zh hi3;have HT:=zh hb4;have e0:=qZ.cell 0 _ rfl;have f0:=qZ.frozen 0;have e1:=qZ.cell 1 _ rfl;have f1:=qZ.frozen 1;have i0:=hi3.cell 0 _ rfl;have g0:=hi3.frozen 0;have hrr : (W,0,[],0,.plain 7)=r:=by
  rw [kr,hq] at hr;cases hr;rfl
 subst hrr;obtain⟨wE,bW,fe,ku⟩:=BG qZ hi3 0 0 ah;have Ij:=zh (And.intro fe ku);clear h hr hfr hb0 hc0 hs0 hb1 hc1 hs1 hb2 hc2 hs2 hb3 hc3 hs3 hc4 hs4 hb4 hcw qH jL zO qZ hi3 hwb hlk fe ku hq
 go_enter Tryz.func31,Tryz.ntmps31
 simp only [hbn,jN,hbe,hbi] at *;go_wp2_with fail;have y0:=Ij.out.1.cell 0 _ rfl;have y1:=Ij.out.1.cell 1 _ rfl;have y2:=Ij.out.2.cell 0 _ rfl;refine bodyPost_ret (v:=.tuple #[.agg #[num 0,ah],num 0,.iface 46 (num 7)]) (by simp [results,Tryz.results31,go_sem,y0,y1,y2]) rfl ?_;have hc:=fK.out w4 aB.out;rw [bW] at hc;exact qm.no H.out hc rfl
theorem adi (g:Nat) {w:World} {Own G:Nat→Prop} {bw:Nat} {W:Wd} {q n:Nm} {args:List Int} {a:Option Addr} {c:Nat} {fuel:Nat} {r:Wd × Nat × List Int × Int × Out} {m:Mod} (h:dP w Own G bw W) {Ga:Nat→Prop} (hrow:Row w Ga a (ints args)) (hga : ∀ x,Ga x→x < w.heap.size∧¬ Own x) (hal : args.length≤2000) (hfu : fuel≤9223372036854775807) (hq:W.M q=some m) (hr : kr g W q n args fuel=some r) :
  Calls Tryz.prog 31 #[ptr bw,str q,str n,.slice a args.length c,num fuel] w (qm w Own G bw r):=by
 have pU : ∀ (fn:Fn) (first cap:Array Value) (w:World),(Instr.makeFunc fn first cap).run Tryz.prog w = .ok (.func fn first cap) w:=fun _ _ _ _=>rfl
 obtain⟨pv,oa,oc,hfr⟩:=h.front;obtain⟨bp,L,bQ,rfl,hhas,fZ⟩ : ∃ bp L bQ,pv=some bp∧Has w Own G bw W L∧nk w Own G bw W L bp (.slice oa W.order.length oc) bQ:=by
  rcases hfr.at_ with⟨_,rfl,_⟩|h
  ·cases hq
  ·exact h
 have hqq:=fZ.2.2.2.2.2.2 q;rw [hq] at hqq;obtain⟨hget,hown,bv,⟨_,hbv,_⟩,jc⟩:=hqq;have hlk : ∀ w',ae [] w w'→(Instr.lookup 38 (.map (some bp)) (str q) true).run Tryz.prog w' = .ok (.tuple #[ptr (L.pb q),.bool true]) w':=fun w' hc=>by
  have hl:=lL (P:=Tryz.prog) Tryz.underlying38 Tryz.underlying9 (rV w') (fZ.2.2.1.kept hc (by simp)) q;rw [hget] at hl;exact hl
 obtain⟨w0,hw0⟩ : ∃ x,w.alloc (.cells #[str n] 9)=x:=⟨_,rfl⟩
 have hb0:ag w0 w.heap.size #[str n] 9:=by rw [← hw0];exact ag.new w _ _
 have hc0:ae [] w w0:=by rw [← hw0];exact(ae.refl _ _).alloc _
 have hs0 : w0.heap.size=w.heap.size + 1:=by rw [← hw0];simp
 obtain⟨w1,hw1⟩ : ∃ x,w0.alloc (.cells #[.slice a args.length c] 41)=x:=⟨_,rfl⟩
 have hb1:ag w1 w0.heap.size #[.slice a args.length c] 41:=by rw [← hw1];exact ag.new w0 _ _
 have hc1:ae [] w0 w1:=by rw [← hw1];exact(ae.refl _ _).alloc _
 have hs1 : w1.heap.size=w0.heap.size + 1:=by rw [← hw1];simp
 obtain⟨w2,hw2⟩ : ∃ x,w1.alloc (.cells #[num 0,ah] 43)=x:=⟨_,rfl⟩
 have hb2:ag w2 w1.heap.size #[num 0,ah] 43:=by rw [← hw2];exact ag.new w1 _ _
 have hc2:ae [] w1 w2:=by rw [← hw2];exact(ae.refl _ _).alloc _
 have hs2 : w2.heap.size=w1.heap.size + 1:=by rw [← hw2];simp
 obtain⟨w3,hw3⟩ : ∃ x,w2.alloc (.cells #[num 0] bN)=x:=⟨_,rfl⟩
 have hb3:ag w3 w2.heap.size #[num 0] bN:=by rw [← hw3];exact ag.new w2 _ _
 have hc3:ae [] w2 w3:=by rw [← hw3];exact(ae.refl _ _).alloc _
 have hs3 : w3.heap.size=w2.heap.size + 1:=by rw [← hw3];simp
 obtain⟨w4,hw4⟩ : ∃ x,w3.alloc (.cells #[ptr (L.pb q)] 94)=x:=⟨_,rfl⟩
 have hb4:ag w4 w3.heap.size #[ptr (L.pb q)] 94:=by rw [← hw4];exact ag.new w3 _ _
 have hc4:ae [] w3 w4:=by rw [← hw4];exact(ae.refl _ _).alloc _
 have hs4 : w4.heap.size=w3.heap.size + 1:=by rw [← hw4];simp
 obtain⟨bn,hbn⟩ : ∃ b,b=w.heap.size:=⟨_,rfl⟩
 obtain⟨ba,jN⟩ : ∃ b,b=w0.heap.size:=⟨_,rfl⟩
 obtain⟨be,hbe⟩ : ∃ b,b=w1.heap.size:=⟨_,rfl⟩
 obtain⟨bi,hbi⟩ : ∃ b,b=w2.heap.size:=⟨_,rfl⟩
 obtain⟨bt,hbt⟩ : ∃ b,b=w3.heap.size:=⟨_,rfl⟩
 have hcw:ae [] w w3:=hc0.then (hc1.then (hc2.then hc3))
 have qH:ae [] w w4:=hcw.then hc4
 have jL:=(((hb0.kept hc1 (by simp)).kept hc2 (by simp)).kept hc3 (by simp)).kept hc4 (by simp);have zO:=((hb1.kept hc2 (by simp)).kept hc3 (by simp)).kept hc4 (by simp);have qZ:=(hb2.kept hc3 (by simp)).kept hc4 (by simp);have hi3:=hb3.kept hc4 (by simp);have hne : w2.heap.size≠w1.heap.size:=by omega
 have hne' : w1.heap.size≠w2.heap.size:=by omega
 have hwb:=hfr.blk.kept hcw (by simp);rw [← hbn] at jL;rw [← jN] at zO;rw [← hbe] at qZ;rw [← hbi] at hi3;rw [← hbt] at hb4;have b0:=hwb.cell 0 _ rfl;have b1:=hwb.cell 1 _ rfl;have TI:=hlk w3 hcw;have dK:=zh (show bn=w.heap.size∧ba=w.heap.size + 1∧be=w.heap.size + 2∧bi=w.heap.size + 3∧bt=w.heap.size + 4∧w4.heap.size=w.heap.size + 5∧bw < w.heap.size by
  have:=h.lt bw (.inl h.own);omega)
 have fK:=zh (fun(wx:World) (hx:ae [] w wx)=>(show ae [] w (((wx.setCell ⟨be,0,none⟩ (num 0)).setCell ⟨be,1,none⟩ ah).setCell ⟨bi,0,none⟩ (num 0)) from hx.trans ((ae.set1 _ _ _ _).then (ae.set1 _ _ _ _)) (fun x hx=>.inr (by have:=dK.out;simp at hx;omega)) |>.trans (ae.set1 _ _ _ _) (fun x hx=>.inr (by have:=dK.out;simp at hx;omega))));have H:=zh h;have HR:=zh hr;have di:=zh hfr;have aB:=zh qH;have HN:=zh jL;have HA:=zh zO;have HE:=zh qZ;have HI:=zh hi3;have HT:=zh hb4;obtain⟨hpo,dJ,ai,ci,av,cv,ap,cp,ab,cb,fE,es,hp3,hmod,_,_,_⟩:=jc.kept qH (by simp);obtain⟨vi,vv,vp,vb,nS,_,_,hpr,_⟩:=hmod;cases nS
 have p3:=hp3.cell 3 _ rfl;have t0:=hb4.cell 0 _ rfl;have A9:=zh (acG m.procs dJ.procs n bn _ _ w4 (uQ hpr) (jL.cell 0 _ rfl));have kJ:=zh hpr;have qo:=zh hp3;have qa:=zh dJ;have kQ:=zh hhas;have fD:=zh fZ;have fH:=zh hrow;have eY:=zh hga;have KU:=zh hal;have LM:=zh hfu;have HQ:=zh hq;clear h hr hfr hb0 hc0 hs0 hb1 hc1 hs1 hb2 hc2 hs2 hb3 hc3 hs3 hc4 hs4 hcw qH jL zO qZ hi3 hwb hlk hq hhas fZ hget hown hbv jc hpo dJ hp3 hpr hrow hga hal hfu
 go_enter Tryz.func31,Tryz.ntmps31
 rw [hbt] at t0;rw [hbn] at A9;go_wp2_with fail;refine A9.out.mono ?_;rintro e w5 ⟨hat,bH⟩;rw [← hbn,← jN,← hbe,← hbi,← hbt];clear hw0 hw1 hw2 hw3 hw4 hbn jN hbe hbi hbt hne hne' b0 b1 TI p3 t0;have cO:=zh bH;have hk5:ae [] w w5:=aB.out.then bH
 obtain⟨bk,hbk⟩ : ∃ b,b=w5.heap.size:=⟨_,rfl⟩
 have hcell : ∀ kk:Int,∃ w6,(w5.alloc (.cells #[num 0] 3)).setCell ⟨w5.heap.size,0,none⟩ (num kk)=w6∧ae [] w5 w6∧ag w6 bk #[num kk] 3∧w6.heap.size=w5.heap.size + 1:=fun kk=>by
  refine⟨_,rfl,((ae.refl [] w5).alloc _).trans (ae.set1 _ _ _ _) (fun x hx=>.inr (by simp at hx;omega)),?_,by simp⟩;rw [hbk]
  simpa using (ag.new w5 #[num 0] 3).set 0 (num kk)
 have p3:=(qo.out.kept bH (by simp)).cell 3 _ rfl;have hn0:=(HT.out.kept bH (by simp)).cell 0 _ rfl;have hm0:=(HN.out.kept bH (by simp)).cell 0 _ rfl;cases gN : m.procs.find? fun p=>p.name == n && p.seen with
 | none=>
  rw [eQ,gN] at hat;simp only at hat;subst hat;obtain⟨w6,iG,hc6,hb6,hs6⟩:=hcell (-1);have zP:=(HE.out.kept bH (by simp)).kept hc6 (by simp);have zQ:=(HI.out.kept bH (by simp)).kept hc6 (by simp);have e0:=zP.cell 0 _ rfl;have f0:=zP.frozen 0;have e1:=zP.cell 1 _ rfl;have f1:=zP.frozen 1;have i0:=zQ.cell 0 _ rfl;have g0:=zQ.frozen 0;have k0:=hb6.cell 0 _ rfl;have hne : bi≠be:=by have:=dK.out;omega
  have hne' : be≠bi:=by have:=dK.out;omega
  rw [hbk] at k0;clear hbk;have Ij:=zh (And.intro zP zQ);have bD:=zh (hk5.then hc6);have hrr : (W,0,[],0,.plain 7)=r:=by
   have hr:=HR.out;rw [kr,HQ.out] at hr;simp only at hr;rw [gN] at hr;simp only at hr;cases hr;rfl
  subst hrr;obtain⟨wE,bW,fe,ku⟩:=BG zP zQ 0 0 ah;have o6:=zh (And.intro fe ku);clear bH hk5 hcell hc6 hb6 hs6 zP zQ fe ku gN;go_wp2_with fail;have y0:=o6.out.1.cell 0 _ rfl;have y1:=o6.out.1.cell 1 _ rfl;have y2:=o6.out.2.cell 0 _ rfl;refine bodyPost_ret (v:=.tuple #[.agg #[num 0,ah],num 0,.iface 46 (num 7)]) (by simp [results,Tryz.results31,go_sem,y0,y1,y2]) rfl ?_;have hc:=fK.out w6 bD.out;rw [bW] at hc;exact qm.no H.out hc rfl
 | some p=>
  rw [eQ,gN] at hat;obtain⟨kk,hkk,rfl⟩:=hat;obtain⟨w6,iG,hc6,hb6,hs6⟩:=hcell kk;have iC:=zh gN;have HKK:=zh hkk;have k0:=hb6.cell 0 _ rfl;rw [hbk] at k0;have bD:=zh (hk5.then hc6);have lY:=zh hb6;have BH:=zh hs6;have Ml:=zh hc6;have aiA : ¬ ((kk:Int) < 0):=by omega
  obtain⟨wD,aH⟩ : ∃ x,x=w6.drew:=⟨_,rfl⟩
  have bg:ae [] w6 wD:=by rw [aH];exact(ae.refl [] w6).drew
  have dW:=zh bg;obtain⟨bb,off,cc,Kv,Kw,Ky,hsl,hcc,_,_,_,d3,_,_,hn1,_,_⟩:=Gq (((kJ.out.kept bH (by simp)).kept hc6 (by simp)).kept bg (by simp)) hkk;simp only [Value.slice.injEq,true_and] at hsl;obtain⟨rfl,rfl⟩:=hsl;obtain⟨aq,cq,rfl,_⟩:=hn1;have hkl:=(List.getElem?_eq_some_iff.1 hkk).1;have HKL:=zh hkl;have Ev:ae [] w4 wD:=(bH.then hc6).then bg
  have nY:=zh Ev;have a0:=(HA.out.kept Ev (by simp)).cell 0 _ rfl;have t0:=(HT.out.kept Ev (by simp)).cell 0 _ rfl;have TJ:=(qo.out.kept Ev (by simp)).cell 3 _ rfl;have kD:=(hb6.kept bg (by simp)).cell 0 _ rfl;have Z3:=zh (bX.of (X:=[]) (w0:=wD) TJ (by simp));clear gN hkk hc6 hb6 hs6 hcell bg Ev bH;go_wp2_with fail;rw [← hbk];clear hbk iG k0 hn0 hm0 p3 hk5;cases hcmp : ((args.length:Int) != (p.params.length:Int)) with
  | true=>
   have hne' : args.length≠p.params.length:=fun e=>by simp [e] at hcmp
   have hrr : (W,0,[],0,.plain 2)=r:=by
    have hr:=HR.out;rw [kr,HQ.out] at hr;simp only at hr;rw [iC.out] at hr;simp only at hr;rw [if_pos hne'] at hr;cases hr;rfl
   subst hrr;have um:=HE.out.kept nY.out (by simp);have Ik:=HI.out.kept nY.out (by simp);have e0:=um.cell 0 _ rfl;have f0:=um.frozen 0;have e1:=um.cell 1 _ rfl;have f1:=um.frozen 1;have i0:=Ik.cell 0 _ rfl;have g0:=Ik.frozen 0;have hnx : bi≠be:=by have:=dK.out;omega
   have G9 : be≠bi:=by have:=dK.out;omega
   obtain⟨wE,bW,fe,ku⟩:=BG um Ik 0 0 ah;have o6:=zh (And.intro fe ku);clear um Ik fe ku hne';refine uq [] rfl (by kernel_rfl) ?_;rw [← aH];clear aH;have hS:ae [] wD wD:=ae.refl _ _
   repeat ((with_reducible refine gX ?_);(first|refine aL ?_|refine sK ?_|refine sM fun _ _=>?_|refine sL fun _ _=>?_|refine sE fun _ _=>?_);go_wp2_with fail)
   have y0:=o6.out.1.cell 0 _ rfl;have y1:=o6.out.1.cell 1 _ rfl;have y2:=o6.out.2.cell 0 _ rfl;refine bodyPost_ret (v:=.tuple #[.agg #[num 0,ah],num 0,.iface 46 (num 2)]) (by simp [results,Tryz.results31,go_sem,y0,y1,y2]) rfl ?_;have hc:=fK.out wD (aB.out.then nY.out);rw [bW] at hc;exact qm.no H.out hc rfl
  | false=>
   have hln : args.length=p.params.length:=by
    have : (args.length:Int)=p.params.length:=by simpa using hcmp
    omega
   obtain⟨ob,lF⟩ : ∃ o,o=(fns W.M g).c 0 q p args ⟨fuel,[],W.vs⟩:=⟨_,rfl⟩
   have hr:=HR.out;rw [kr,HQ.out] at hr;simp only at hr;rw [iC.out] at hr;simp only at hr;rw [if_neg (by simpa using hln),← lF] at hr;have uz : ob ≠ .stuck:=fun h=>by rw [h] at hr;cases hr
   have Ew:ae [] w wD:=aB.out.then nY.out
   have hXl : ∃ X:List Nat,(∀ n s',ob = .ok n s'→X=[bi])∧(∀ way s',ob = .stop way s'→X=[]):=by
    cases ob with
    | ok n s'=>exact⟨[bi],fun _ _ _=>rfl,fun _ _ h=>by cases h⟩
    | stop way s'=>exact⟨[],fun _ _ h=>(by cases h),fun _ _ _=>rfl⟩
    | stuck=>exact absurd rfl uz
   obtain⟨X,hX1,hX2⟩:=hXl;have Mm : ∀ x∈X,x=bi:=fun x hx=>by
    cases Mo : ob with
    | ok n s'=>rw [hX1 n s' Mo] at hx;simpa using hx
    | stop way s'=>rw [hX2 way s' Mo] at hx;cases hx
    | stuck=>exact absurd Mo uz
   have hlow:=fun x (hx : w.heap.size≤x)=>kQ.out.home.low hx
   have hsD:=Ew.size;have Eo:=zh (abv 66 (ptr bt) (ptr bk) (ptr ba) (ptr bi) (fun args w=>rfl) ob (fun w' n e=>e = .returned (.tuple #[])∧ag w' bi #[num n] bN) (fun _ _ _ h=>h.1) L W.vs fuel LM.out X wD (kQ.out.home.kept Ew) (fun x hx=>by rw [Mm x hx];have:=dK.out;have:=nY.out.size;omega) uz (fun w1 br hbr hc1 hg=>by
    rw [lF,← kQ.out.M];exact acD (L:={ L with br:=br }) (q:=q) (m:=m) (p:=p) (k:=kk) (args:=args) (a:=a) (c:=c) (b13:=bt) (b15:=bk) (b8:=ba) (b11:=bi) (u:=num 0) g hg (by show L.M q=some m;rw [kQ.out.M];exact HQ.out) HKK.out (((HT.out.kept nY.out (by simp)).kept hc1 (by simp))) (((lY.out.kept dW.out (by simp)).kept hc1 (by simp))) (((HA.out.kept nY.out (by simp)).kept hc1 (by simp))) (((HI.out.kept nY.out (by simp)).kept hc1 (by simp))) ⟨fun hm=>by
     have hb:=hlow bi (by have:=dK.out;omega);rcases List.mem_cons.1 hm with h|hm
     ·have h : bi=br:=h
      have:=dK.out;have:=nY.out.size;omega
     ·exact hb.2 (by simpa [blk] using hm),(hlow bi (by have:=dK.out;omega)).1⟩ ((((fH.out.kept Ew (by simp)).kept hc1 (by simp))).mono (fun x hx hm=>by
     have hx:=eY.out x hx;rcases List.mem_cons.1 hm with h|hm
     ·have h : x=br:=h
      omega
     ·exact hx.2 (kQ.out.au x (by simpa [blk] using hm)))) KU.out (by show (fns L.M g).c 0 q p args _≠_;rw [kQ.out.M,← lF];exact uz) X (fun n s' he=>hX1 n s' (by rw [lF,← kQ.out.M];exact he))))
   rw [kQ.out.lC] at Eo;have HOB:=zh lF;have HRR:=zh hr;have fI:=zh hX1;have nE:=zh hX2;have HXB:=zh Mm;have zu:=zh hlow;have Mr:=zh Ew;clear lF hr uz hX1 hX2 Mm hlow hsD Ew hln;refine uq [] rfl (by kernel_rfl) ?_;rw [← aH];clear aH;have hS:ae [] wD wD:=ae.refl _ _
   repeat ((with_reducible refine gX ?_);(first|refine aL ?_|refine sK ?_|refine sM fun _ _=>?_|refine sL fun _ _=>?_|refine sE fun _ _=>?_);go_wp2_with fail)
   clear hS Z3 a0 t0 TJ kD d3;refine Eo.out.mono ?_;rintro _ w9 ⟨ve,rfl,hev,BB,bR,hok⟩;obtain⟨eov,rfl,xR,hef⟩:=hev;obtain⟨ea,ec,rfl⟩:=gq xR;have hbx : ∀ x,x=be∨x=bi→x∉L.au:=fun x hx=>(zu.out x (by have:=dK.out;omega)).2
   have iW:=(HE.out.kept nY.out (by simp)).kept bR (fun hm=>by
    rcases List.mem_append.1 hm with h|h
    ·have:=HXB.out _ h;have:=dK.out;omega
    ·exact hbx be (.inl rfl) h)
   have Ep:=zh BB;have dh:=zh bR;have qj:=zh xR;have o6:=zh hef;have e0:=iW.cell 0 _ rfl;have f0:=iW.frozen 0;have e1:=iW.cell 1 _ rfl;have f1:=iW.frozen 1;have Er:=zh iW;have hnx : bi≠be:=by have:=dK.out;omega
   have G9 : be≠bi:=by have:=dK.out;omega
   cases lF : ob with
   | stuck=>
    have:=HRR.out;rw [lF] at this;cases this
   | ok nn s9=>
    obtain⟨w2',⟨_,TK⟩,hcw2⟩:=hok nn s9 lF;have vI:ag w9 bi #[num nn] bN:=TK.kept hcw2 (by have:=nY.out.size;have:=dK.out;simp;omega);have i0:=vI.cell 0 _ rfl;have g0:=vI.frozen 0;have Il:=zh vI;have aiC:=zh lF;subst lF;clear BB bR xR hef iW vI hok hbx TK hcw2;simp only [zq,uf] at *;obtain⟨wS,iY,hbS,fJ⟩:=mG 1 (.slice ea s9.out.length ec) Er.out;have nG:=Il.out.kept fJ (by simpa using hnx);have s0:=hbS.cell 0 _ rfl;have s1:=hbS.cell 1 _ rfl;have t0:=hbS.frozen 0;have t1:=hbS.frozen 1;have j0:=nG.cell 0 _ rfl;have j1:=nG.frozen 0;have jf:=zh hbS;have HIS:=zh nG;have jw:=zh fJ;clear hbS nG fJ;go_wp2_with fail;clear e0 f0 e1 f1 i0 g0 iY;have TL:=(jf.out.kept (ae.refl [] wS).drew (by simp)).cell 0 _ rfl;have s1':=(jf.out.kept (ae.refl [] wS).drew (by simp)).cell 1 _ rfl;have TM:=(HIS.out.kept (ae.refl [] wS).drew (by simp)).cell 0 _ rfl
    go_region
    all_goals (try go_wp2_with fail)
    obtain⟨wE,bW,fe,ku⟩:=BG jf.out HIS.out 1 nn (.slice ea s9.out.length ec);have gu:ae [be,bi] wS wE:=by
     rw [← bW];exact(((ae.refl [be,bi] wS).setCell _ (.inl (by simp)) _).setCell _ (.inl (by simp)) _).setCell _ (.inl (by simp)) _
    rw [bW];have y0:=(fe.kept (ae.refl [] wE).drew (by simp)).cell 0 _ rfl;have y1:=(fe.kept (ae.refl [] wE).drew (by simp)).cell 1 _ rfl;have y2:=(ku.kept (ae.refl [] wE).drew (by simp)).cell 0 _ rfl;refine bodyPost_ret (v:=.tuple #[.agg #[num 1,.slice ea s9.out.length ec],num nn,.nilIface]) (by simp [results,Tryz.results31,go_sem,y0,y1,y2]) rfl ?_;have hrr:=HRR.out;simp only [Option.some.injEq] at hrr;subst hrr;exact qm.done (bi:=bi) (be:=be) (way:=1) H.out kQ.out Mr.out Ep.out dh.out HXB.out (by have:=dK.out;have:=nY.out.size;omega) qj.out o6.out (((jw.out.mono (fun x hx=>.inl (by simp at hx;simp [hx]))).then gu).then (ae.refl [be,bi] wE).drew)
   | stop way s9=>
    have hXn:X=[]:=nE.out way s9 lF;subst hXn;have vI:ag w9 bi #[num 0] bN:=(HI.out.kept nY.out (by simp)).kept bR (fun hm=>hbx bi (.inr rfl) (by simpa using hm));have i0:=vI.cell 0 _ rfl;have g0:=vI.frozen 0;have Il:=zh vI;subst lF;clear BB bR xR hef iW vI hok hbx;simp only [zq,uf] at *;by_cases adn : way=1
    ·subst adn
     obtain⟨wS,iY,hbS,fJ⟩:=mG 1 (.slice ea s9.out.length ec) Er.out;have nG:=Il.out.kept fJ (by simpa using hnx);have s0:=hbS.cell 0 _ rfl;have s1:=hbS.cell 1 _ rfl;have t0:=hbS.frozen 0;have t1:=hbS.frozen 1;have j0:=nG.cell 0 _ rfl;have j1:=nG.frozen 0;have jf:=zh hbS;have HIS:=zh nG;have jw:=zh fJ;clear hbS nG fJ;go_wp2_with fail;clear e0 f0 e1 f1 i0 g0 iY;have TL:=(jf.out.kept (ae.refl [] wS).drew (by simp)).cell 0 _ rfl;have s1':=(jf.out.kept (ae.refl [] wS).drew (by simp)).cell 1 _ rfl;have TM:=(HIS.out.kept (ae.refl [] wS).drew (by simp)).cell 0 _ rfl
     go_region
     all_goals (try go_wp2_with fail)
     obtain⟨wE,bW,fe,ku⟩:=BG jf.out HIS.out 1 0 (.slice ea s9.out.length ec);have gu:ae [be,bi] wS wE:=by
      rw [← bW];exact(((ae.refl [be,bi] wS).setCell _ (.inl (by simp)) _).setCell _ (.inl (by simp)) _).setCell _ (.inl (by simp)) _
     rw [bW];have y0:=(fe.kept (ae.refl [] wE).drew (by simp)).cell 0 _ rfl;have y1:=(fe.kept (ae.refl [] wE).drew (by simp)).cell 1 _ rfl;have y2:=(ku.kept (ae.refl [] wE).drew (by simp)).cell 0 _ rfl;refine bodyPost_ret (v:=.tuple #[.agg #[num 1,.slice ea s9.out.length ec],num 0,.nilIface]) (by simp [results,Tryz.results31,go_sem,y0,y1,y2]) rfl ?_;have hrr:=HRR.out;simp only [Option.some.injEq] at hrr;subst hrr;exact qm.done (bi:=bi) (be:=be) (way:=1) H.out kQ.out Mr.out Ep.out dh.out HXB.out (by have:=dK.out;have:=nY.out.size;omega) qj.out o6.out (((jw.out.mono (fun x hx=>.inl (by simp at hx;simp [hx]))).then gu).then (ae.refl [be,bi] wE).drew)
    ·have aiD : ¬ (way:Int)=1:=by omega
     obtain⟨wS,iY,hbS,fJ⟩:=mG way (.slice ea s9.out.length ec) Er.out;have nG:=Il.out.kept fJ (by simpa using hnx);have s0:=hbS.cell 0 _ rfl;have s1:=hbS.cell 1 _ rfl;have t0:=hbS.frozen 0;have t1:=hbS.frozen 1;have j0:=nG.cell 0 _ rfl;have j1:=nG.frozen 0;obtain⟨wT,hwT⟩ : ∃ x,wS.setCell ⟨bi,0,none⟩ (num 0)=x:=⟨_,rfl⟩
     have jr:ae [bi] wS wT:=by rw [← hwT];exact ae.set1 _ _ _ _
     have TN:ag wT bi #[num 0] bN:=by rw [← hwT];simpa using nG.set 0 (num 0)
     have xL:=hbS.kept jr (by simpa using G9);have jw:=zh fJ;have zR:=zh xL;have HIT:=zh TN;have fw:=zh jr;clear hbS nG fJ jr TN xL;go_wp2_with fail;clear e0 f0 e1 f1 i0 g0 iY s0 s1 t0 t1 j0 j1 hwT;have s0:=zR.out.cell 0 _ rfl;have s1:=zR.out.cell 1 _ rfl;have t0:=zR.out.frozen 0;have t1:=zR.out.frozen 1;have j0:=HIT.out.cell 0 _ rfl;have j1:=HIT.out.frozen 0;have TL:=(zR.out.kept (ae.refl [] wT).drew (by simp)).cell 0 _ rfl;have s1':=(zR.out.kept (ae.refl [] wT).drew (by simp)).cell 1 _ rfl;have TM:=(HIT.out.kept (ae.refl [] wT).drew (by simp)).cell 0 _ rfl
     go_region
     all_goals (try go_wp2_with fail)
     obtain⟨wE,bW,fe,ku⟩:=BG zR.out HIT.out way 0 (.slice ea s9.out.length ec);have gu:ae [be,bi] wT wE:=by
      rw [← bW];exact(((ae.refl [be,bi] wT).setCell _ (.inl (by simp)) _).setCell _ (.inl (by simp)) _).setCell _ (.inl (by simp)) _
     rw [bW];have y0:=(fe.kept (ae.refl [] wE).drew (by simp)).cell 0 _ rfl;have y1:=(fe.kept (ae.refl [] wE).drew (by simp)).cell 1 _ rfl;have y2:=(ku.kept (ae.refl [] wE).drew (by simp)).cell 0 _ rfl;refine bodyPost_ret (v:=.tuple #[.agg #[num way,.slice ea s9.out.length ec],num 0,.nilIface]) (by simp [results,Tryz.results31,go_sem,y0,y1,y2]) rfl ?_;have hrr:=HRR.out;simp only [Option.some.injEq] at hrr;subst hrr;exact qm.done (bi:=bi) (be:=be) (way:=way) H.out kQ.out Mr.out Ep.out dh.out HXB.out (by have:=dK.out;have:=nY.out.size;omega) qj.out o6.out ((((jw.out.mono (fun x hx=>.inl (by simp at hx;simp [hx]))).then (fw.out.mono (fun x hx=>.inl (by simp at hx;simp [hx])))).then gu).then (ae.refl [be,bi] wE).drew)
theorem TP (g:Nat) {w:World} {Own G:Nat→Prop} {bw:Nat} {W:Wd} {q n:Nm} {args:List Int} {a:Option Addr} {c:Nat} {fuel:Nat} {r:Wd × Nat × List Int × Int × Out} (h:dP w Own G bw W) {Ga:Nat→Prop} (hrow:Row w Ga a (ints args)) (hga : ∀ x,Ga x→x < w.heap.size∧¬ Own x) (hal : args.length≤2000) (hfu : fuel≤9223372036854775807) (hr : kr g W q n args fuel=some r) :
  Calls Tryz.prog 31 #[ptr bw,str q,str n,.slice a args.length c,num fuel] w (qm w Own G bw r):=by
 cases hq:W.M q with
 | none=>exact adh g h hq hr
 | some m=>exact adi g h hrow hga hal hfu hq hr
end Go.Proofs.YtechofppmnnomaaGreatDoor
namespace Go.Proofs.YtechofppmnnomaaGreatDoor
open Go Go.RowKit Go.Mq Go.Mq.Tree Go.Mq.Sym Go.Mq.Run
open Go.Mq.fu (bA getM dG jX lL mR kH)
set_option maxRecDepth 100000
set_option maxHeartbeats 4000000
theorem ado (l:List Int) (hl : l.length≤1000) (a:Addr) (c:Nat) (F:Nat→Prop) (w:World) (hrow:Row w F (some a) (ints l)) :
  Calls Tryz.prog 58 #[.slice (some a) l.length c] w (fun e w'=>∃ v',e = .returned v'∧w'.ownsRow 0 bN 1 v' l.length (ints l)∧From w.heap.size v'∧ae [] w w'):=by
 have hne : ∀ w,(binOp BinOp.eql 41 (.slice (some a) l.length c) (.slice none 0 0)).run Tryz.prog w = .ok (.bool false) w:=fun _=>rfl
 have hown : (w.alloc (.cells #[] bN)).ownsRow 0 bN 1 (.slice (some ⟨w.heap.size,0,none⟩) 0 0) 0 []:=⟨rfl,.inr ⟨w.heap.size,0,#[],rfl,Nat.zero_le _,heap_alloc_new w _,Nat.le_refl _,Nat.zero_le _,rfl,rfl⟩⟩;have HOWN:=zh hown;have aO:ae [] w (w.alloc (.cells #[] bN)):=(ae.refl _ _).alloc _;have HAT:=zh ((hrow.kept aO (by simp)).at_);have r9:=zh aO;clear hrow hown aO
 go_enter Tryz.func58,Tryz.ntmps58
 go_wp2_with (at_builtin;go_must (refine FZ rfl _ _ 41 rfl bN _ 1 8 AZ Tryz.underlying41 rfl (by decide) _ 0 [] rfl HOWN.out (some a) l.length c (ints l) rfl ?_ HAT.out ?_ ?_ ?_ ?_))
 ·simp
 ·intro u hu
  simp only [ints,List.mem_map] at hu;obtain⟨x,_,rfl⟩:=hu
  rfl
 ·omega
 ·unfold maxLen;omega
 ·intro v' w' hown' hch' cz
  have HO:=zh (show w'.ownsRow 0 bN 1 v' l.length (ints l) by simpa using hown');have hf:From w.heap.size v':=fun g hg=>by
   rcases cz g hg with h1|h1
   ·simp [blk] at h1;omega
   ·simp at h1;omega
  have HF:=zh hf;have HC:=zh (r9.out.trans hch' (fun x hx=>.inr (by simp [blk] at hx;omega)));clear hown' hch' cz hf;go_wp2_with fail;go_ret
  exact⟨_,rfl,HO.out,HF.out,HC.out⟩
theorem adp (l:List Nm) (hl : l.length≤1000) (v:Value) (w:World) (hv : w.ownsRow 0 9 1 v l.length (l.map str)) :
  Calls Tryz.prog 87 #[v] w (fun e w'=>∃ v',e = .returned v'∧w'.ownsRow 0 9 1 v' l.length (l.map str)∧From w.heap.size v'∧ae [] w w'):=by
 obtain⟨a,c,rfl,hlc,hrow⟩:=Row.jU (F:=fun _=>True) hv (fun _ _=>trivial);cases a with
 | none=>
  have hc0 : c=0∧l=[]:=by
   rcases hv.2 with⟨h,h2⟩|⟨g,cap,cur,h,_⟩
   ·simp only [Value.slice.injEq,true_and] at h
    exact⟨h.2,List.eq_nil_of_length_eq_zero h2⟩
   ·simp at h
  obtain⟨rfl,rfl⟩:=hc0;clear hrow hlc hv;have hne : ∀ w,(binOp BinOp.eql 27 (.slice none 0 0) (.slice none 0 0)).run Tryz.prog w = .ok (.bool true) w:=fun _=>rfl
  change Calls _ _ #[.slice none 0 0] _ _
  go_enter Tryz.func87,Tryz.ntmps87
  go_wp2_with fail;go_ret
  exact⟨_,rfl,World.ownsRow_nil _ _ _ _,From.nil _,ae.refl _ _⟩
 | some p=>
  have hne : ∀ w,(binOp BinOp.eql 27 (.slice (some p) l.length c) (.slice none 0 0)).run Tryz.prog w = .ok (.bool false) w:=fun _=>rfl
  have hown : (w.alloc (.cells #[] 9)).ownsRow 0 9 1 (.slice (some ⟨w.heap.size,0,none⟩) 0 0) 0 []:=⟨rfl,.inr ⟨w.heap.size,0,#[],rfl,Nat.zero_le _,heap_alloc_new w _,Nat.le_refl _,Nat.zero_le _,rfl,rfl⟩⟩;have HOWN:=zh hown;have aO:ae [] w (w.alloc (.cells #[] 9)):=(ae.refl _ _).alloc _;have HAT:=zh ((hrow.kept aO (by simp)).at_);have r9:=zh aO;clear hrow hown aO hv
  go_enter Tryz.func87,Tryz.ntmps87
  go_wp2_with (at_builtin;go_must (refine FZ rfl _ _ 27 rfl 9 _ 1 16 AR Tryz.underlying27 rfl (by decide) _ 0 [] rfl HOWN.out (some p) l.length c (l.map str) rfl ?_ HAT.out ?_ ?_ ?_ ?_))
  ·simp
  ·intro u hu
   simp only [List.mem_map] at hu;obtain⟨x,_,rfl⟩:=hu
   rfl
  ·omega
  ·unfold maxLen;omega
  ·intro v' w' hown' hch' cz
   have HO:=zh (show w'.ownsRow 0 9 1 v' l.length (l.map str) by simpa using hown');have hf:From w.heap.size v':=fun g hg=>by
    rcases cz g hg with h1|h1
    ·simp [blk] at h1;omega
    ·simp at h1;omega
   have HF:=zh hf;have HC:=zh (r9.out.trans hch' (fun x hx=>.inr (by simp [blk] at hx;omega)));clear hown' hch' cz hf;go_wp2_with fail;go_ret
   exact⟨_,rfl,HO.out,HF.out,HC.out⟩
theorem adq {w:World} {Own G:Nat→Prop} {bw:Nat} {W:Wd} (h:dP w Own G bw W) :
  Calls Tryz.prog 45 #[ptr bw] w (fun e w'=>∃ v',e = .returned v'∧w'.ownsRow 0 9 1 v' W.order.length (W.order.map str)∧From w.heap.size v'∧ae [] w w'):=by
 obtain⟨pv,oa,oc,hfr⟩:=h.front;have ho : w.ownsRow 0 9 1 (.slice oa W.order.length oc) W.order.length (W.order.map str):=by
  rcases hfr.at_ with⟨_,rfl,rfl,rfl⟩|⟨bp,L,bQ,_,_,ho⟩
  ·exact World.ownsRow_nil _ _ _ _
  ·exact ho.2.1
 have b1:=hfr.blk.cell 1 _ rfl;have HC:=zh (adp W.order (by have:=h.few;omega) _ w ho);clear h hfr ho
 go_enter Tryz.func45,Tryz.ntmps45
 go_wp2_with fail;refine HC.out.mono ?_;rintro _ w1 ⟨v',rfl,h1,h2,h3⟩;have H1:=zh h1;clear h1;go_wp2_with fail;go_ret
 exact⟨_,rfl,H1.out,h2,h3⟩
def pg (W:Wd) (q n:Nm):Option (List Int):=(W.M q).bind fun _=>W.vs q n
theorem adr {W:Wd} {q n:Nm} (h:W.M q=none) : pg W q n=none:=by rw [pg,h];rfl
theorem ads {W:Wd} {q n:Nm} {m:Mod} (h:W.M q=some m) : pg W q n=W.vs q n:=by rw [pg,h];rfl
def adt (w:World) (o:Option (List Int)) (e:Ending) (w':World):Prop:=ae [] w w'∧match o with
 | none=>e = .returned (.tuple #[ah,.iface 46 (num 7)])
 | some l=>∃ v,e = .returned (.tuple #[v,.nilIface])∧w'.ownsRow 0 bN 1 v l.length (ints l)∧From w.heap.size v∧l.length≤1000
theorem adu {w:World} {Own G:Nat→Prop} {bw:Nat} {W:Wd} (h:dP w Own G bw W) (q n:Nm) :
  Calls Tryz.prog 29 #[ptr bw,str q,str n] w (adt w (pg W q n)):=by
 obtain⟨pv,oa,oc,hfr⟩:=h.front;cases hq:W.M q with
 | none=>
  obtain⟨o,hlk⟩:=Hl hfr q;rw [hq] at hlk;have hl:=hlk w (ae.refl _ _);have b0:=hfr.blk.cell 0 _ rfl;rw [adr hq];clear h hfr hlk hq
  go_enter Tryz.func29,Tryz.ntmps29
  go_wp2_with fail;go_ret2
  exact⟨ae.refl _ _,rfl⟩
 | some m=>
  obtain⟨bp,L,bQ,rfl,hhas,fZ⟩ : ∃ bp L bQ,pv=some bp∧Has w Own G bw W L∧nk w Own G bw W L bp (.slice oa W.order.length oc) bQ:=by
   rcases hfr.at_ with⟨_,rfl,_⟩|h
   ·cases hq
   ·exact h
  have hqq:=fZ.2.2.2.2.2.2 q;rw [hq] at hqq;obtain⟨hget,hown,bv,_,jc⟩:=hqq;have hl:=lL (P:=Tryz.prog) Tryz.underlying38 Tryz.underlying9 (rV w) fZ.2.2.1 q;rw [hget] at hl;obtain⟨_,_,ai,ci,av,cv,ap,cp,ab,cb,fE,es,hp3,_,_,hmv,hes⟩:=jc;have p5:=hp3.cell 5 _ rfl;have b0:=hfr.blk.cell 0 _ rfl;have hg:=jX (P:=Tryz.prog) Tryz.underlying99 Tryz.underlying9 (Gt w) hmv n;rw [hes n] at hg;have hdy:=hhas.home.dyn q n;rw [ads hq];cases hd:L.ak q n with
  | none=>
   rw [hd] at hdy hg;simp only at hdy;rw [hdy];have hne : ∀ w,(binOp BinOp.eql 41 (.slice none 0 0) (.slice none 0 0)).run Tryz.prog w = .ok (.bool true) w:=fun _=>rfl
   clear h hfr hhas fZ hget hown hp3 hmv hes hdy hd hq
   go_enter Tryz.func29,Tryz.ntmps29
   go_wp2_with fail;go_ret2
   exact⟨ae.refl _ _,rfl⟩
  | some x=>
   obtain⟨b,k⟩:=x;rw [hd] at hdy hg;obtain⟨l,hvs,rfl,hb⟩:=hdy;rw [hvs];have hk:=((hhas.home.lay w.heap.size (Nat.le_refl _)).arr hd).2.2;have hne : ∀ w,(binOp BinOp.eql 41 (.slice (some ⟨b,0,none⟩) l.length l.length) (.slice none 0 0)).run Tryz.prog w = .ok (.bool false) w:=fun _=>rfl
   have HC:=zh (ado l (by omega) ⟨b,0,none⟩ l.length (fun _=>True) w ⟨fun _=>⟨b,0,rfl,fun i x hx=>by rw [Nat.zero_add];exact hb.cell i x (by simpa using hx)⟩,fun _ _ _=>trivial⟩);have HK:=zh hk;clear h hfr hhas fZ hget hown hp3 hmv hes hd hq hb hvs hk
   go_enter Tryz.func29,Tryz.ntmps29
   go_wp2_with fail;refine HC.out.mono ?_;rintro _ w1 ⟨v',rfl,h1,h2,h3⟩;have H1:=zh h1;clear h1;go_wp2_with fail;go_ret2
   exact⟨h3,_,rfl,H1.out,h2,HK.out⟩
end Go.Proofs.YtechofppmnnomaaGreatDoor
