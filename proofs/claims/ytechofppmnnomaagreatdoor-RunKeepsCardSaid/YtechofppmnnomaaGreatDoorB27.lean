/- Some texts in one. -/
import Derived.Test.YtechofppmnnomaaGreatDoorB10
import Derived.Test.YtechofppmnnomaaGreatDoorB14
import Derived.Test.YtechofppmnnomaaGreatDoorB17
import Derived.Test.YtechofppmnnomaaGreatDoorB21
import Derived.Test.YtechofppmnnomaaGreatDoorB25
import Derived.Test.YtechofppmnnomaaGreatDoorB26
namespace Go.Mq.Run
open Go Go.RowKit Go.Mq Go.Mq.Tree Go.Mq.Sym
open Go.Mq.Check (Env oH bA aQ lG dV ic dx check Out kU FW fI)
def qo (M:Ms) (m:Mod) (lo:List Nm):Env:=⟨m.imports,dP M,lo,m.vars,m.procs⟩
def Loc (lo:List Nm) (fr:Fr):Prop:=∀ n,n∈lo↔(eH fr n).isSome
theorem LP (fr:Fr) (n:Nm) (v:Int) (k:Nm) : eH (jX fr n v) k=if n=k then some v else eH fr k:=by
 induction fr with
 | nil=>simp [jX,eH]
 | cons p r ih=>
  obtain⟨a,u⟩:=p;rw [jX];split
  ·next h=>subst h;rw [eH,eH];split <;> simp_all
  ·next h=>
   rw [eH,eH,ih];split
   ·next h2=>subst h2;rw [if_neg (fun e=>h e.symm)]
   ·rfl
theorem Loc.put {lo:List Nm} {fr:Fr} (h:Loc lo fr) {n:Nm} (hn : (eH fr n).isSome) (v:Int):Loc lo (jX fr n v):=fun k=>by
 rw [h k,LP];split
 ·next e=>subst e;simp [hn]
 ·rfl
def Shape (M:Ms) (vs:Vs):Prop:=∀ q m,M q=some m → ∀ g∈m.vars,∃ l,vs q g.name=some l∧l.length=jC g
theorem SB (g:bJ) : 1≤jC g:=by unfold jC;omega
structure zL (M:Ms):Prop where
 good : ∀ q m,M q=some m→kL m∧m.name=q
 fine : ∀ q m,M q=some m→check m (dP M) = .fine
theorem Shape.al {M:Ms} {vs vs':Vs} (h:Shape M vs) (k : ∀ q n,(vs' q n).map List.length=(vs q n).map List.length):Shape M vs':=fun q m hq g hg=>by
 obtain⟨l,h1,h2⟩:=h q m hq g hg;have:=k q g.name;rw [h1] at this;cases hv : vs' q g.name with
 | none=>rw [hv] at this;cases this
 | some l'=>rw [hv] at this;simp at this;exact⟨l',rfl,by omega⟩
theorem acj {m:Mod} {s:Sy} (h : s∈ofM m) : (∃ g∈m.vars,s=pU g) ∨ ∃ p∈m.procs,s=tC p:=by
 have:=PR h;rcases List.mem_append.1 this with h|h
 ·obtain⟨g,hg,rfl⟩:=List.mem_map.1 h;exact .inl ⟨g,(List.mem_filter.1 hg).1,rfl⟩
 ·obtain⟨g,hg,rfl⟩:=List.mem_map.1 h;exact .inr ⟨g,(List.mem_filter.1 hg).1,rfl⟩
theorem Hu {l:List Sy} {n:Nm} {k:Nat} (h : jr l n=some k) : l.getD k Sy.none∈l∧(l.getD k Sy.none).name=n:=by
 obtain⟨hlt,h2,_⟩:=List.findIdx?_eq_some_iff_getElem.1 h;have e : l.getD k Sy.none=l[k]:=by simp [List.getD,hlt]
 rw [e];exact⟨List.getElem_mem hlt,by simpa using h2⟩
theorem LQ {M:Ms} {m:Mod} {lo:List Nm} {p:Nat} {mm n:Nm} {s:Sy} (hmm : mm≠[]) (h : (qo M m lo).find p mm n = .is s) : mm∈m.imports ∧ ∃ mo,M mm=some mo∧((∃ g∈mo.vars,s=pU g∧g.name=n) ∨ ∃ x∈mo.procs,s=tC x∧x.name=n):=by
 unfold Env.find at h
 rw [if_pos hmm] at h
 change (if mm∉m.imports then oH.bad 5 p else match jr ((dP M mm).getD []) n with
  | none=>.bad 7 p
  | some k=>.is (((dP M mm).getD []).getD k Sy.none))=oH.is s at h
 by_cases hi : mm∉m.imports
 ·rw [if_pos hi] at h;cases h
 ·rw [if_neg hi] at h
  refine⟨Classical.not_not.1 hi,?_⟩;cases hM:M mm with
  | none=>simp [dP,hM,jr] at h
  | some mo=>
   simp only [dP,hM,Option.map_some,Option.getD_some] at h;cases hk : jr (ofM mo) n with
   | none=>rw [hk] at h;cases h
   | some k=>
    rw [hk] at h;simp only at h;cases h
    obtain⟨h1,h2⟩:=Hu hk;refine⟨mo,rfl,?_⟩;rcases acj h1 with⟨g,hg,e⟩|⟨x,hx,e⟩
    ·exact .inl ⟨g,hg,e,by rw [← h2,e];rfl⟩
    ·exact .inr ⟨x,hx,e,by rw [← h2,e];rfl⟩
theorem SC {M:Ms} {m:Mod} {lo:List Nm} {p:Nat} {n:Nm} {s:Sy} (h : (qo M m lo).find p [] n = .is s) : n∈lo∧s.args = -1∧s.len=0∨n∉lo∧((∃ g∈m.vars,s=⟨n,g.len,-1⟩∧g.name=n) ∨ ∃ x∈m.procs,s=⟨n,0,x.params.length⟩∧x.name=n):=by
 unfold Env.find at h
 rw [if_neg (by simp)] at h
 change (if n∈lo then oH.is ⟨n,0,-1⟩ else match m.vars.find? fun g=>g.name == n with
  | some g=>.is ⟨n,g.len,-1⟩
  | none=>match m.procs.find? fun x=>x.name == n with
   | some x=>.is ⟨n,0,x.params.length⟩
   | none=>.bad 7 p)=oH.is s at h
 by_cases hl : n∈lo
 ·rw [if_pos hl] at h;cases h;exact .inl ⟨hl,rfl,rfl⟩
 ·rw [if_neg hl] at h
  refine .inr ⟨hl,?_⟩;split at h
  ·next g hg=>cases h;exact .inl ⟨g,List.mem_of_find?_eq_some hg,rfl,by simpa using List.find?_some hg⟩
  ·split at h
   ·next x hx=>cases h;exact .inr ⟨x,List.mem_of_find?_eq_some hx,rfl,by simpa using List.find?_some hx⟩
   ·cases h
theorem LU {c:Env} {p:Nat} {m n:Nm} {f:Sy→Go.Mq.Check.dX} (h : ic c p m n f=none) : ∃ s,c.find p m n = .is s∧f s=none:=by
 unfold ic at h
 cases hf : c.find p m n with
 | bad e q=>rw [hf] at h;cases h
 | is s=>rw [hf] at h;exact⟨s,rfl,h⟩
theorem SE (q:Nm) : dC q []=q:=if_pos rfl
theorem SF {q m:Nm} (h : m≠[]) : dC q m=m:=if_neg h
theorem ack {M:Ms} (hM:zL M) {q:Nm} {m:Mod} (hq:M q=some m) : (m.procs.map (·.name)).Nodup:=(List.nodup_append.1 ((kU _ _).1 (hM.fine q m hq)).2.1).2.1
theorem acm {l:List aX} (h : (l.map (·.name)).Nodup) {x:aX} (hx : x∈l) : l.find? (fun p=>p.name == x.name)=some x:=by
 induction l with
 | nil=>cases hx
 | cons y r ih=>
  rw [List.map_cons,List.nodup_cons] at h;rw [List.find?_cons];rcases List.mem_cons.1 hx with rfl|hx
  ·simp
  ·have : (y.name == x.name)=false:=by
    simp only [beq_eq_false_iff_ne];intro e;exact h.1 (e ▸ List.mem_map_of_mem hx)
   rw [this];exact ih h.2 hx
def aN {α:Type} (f:Nat→O α):Prop:=∀ g g',g≤g'→Le (f g) (f g')
def Fin {α:Type} (f:Nat→O α):Prop:=∃ g,f g ≠ .stuck
theorem Le.SG {α:Type} {a b:O α} (h:Le a b) (k : a ≠ .stuck) : a=b:=h.resolve_left k
theorem Fin.bind {α β:Type} {f:Nat→O α} {k:Nat→α→St→O β} (hf:aN f) (hk : ∀ a s,aN (fun g=>k g a s)) (h:Fin f) (h2 : ∀ g a s,f g = .ok a s→Fin (fun g=>k g a s)):Fin (fun g=>(f g).bind (k g)):=by
 obtain⟨g,hg⟩:=h;cases ho : f g with
 | stuck=>exact absurd ho hg
 | stop w s=>exact⟨g,by simp [ho,O.bind]⟩
 | ok a s=>
  obtain⟨g2,hg2⟩:=h2 g a s ho;refine⟨max g g2,?_⟩;have e1:=(hf g (max g g2) (Nat.le_max_left _ _)).SG hg;have e2:=(hk a s g2 (max g g2) (Nat.le_max_right _ _)).SG hg2
  show (f (max g g2)).bind _≠_
  rw [← e1,ho]
  show k (max g g2) a s≠_
  simp only at e2;rw [← e2];exact hg2
theorem Fin.const {α:Type} {o:O α} (h : o ≠ .stuck):Fin (fun _=>o):=⟨0,h⟩
theorem aN.const {α:Type} (o:O α):aN (fun _=>o):=fun _ _ _=>.refl _
theorem gM (M:Ms) (d:Nat) (q:Nm) (fr:Fr) (x:E) (s:St):aN fun g=>(fns M g).e d q fr x s:=fun _ _ h=>(Ej M h).e d q fr x s
theorem LV (M:Ms) (d:Nat) (q:Nm) (fr:Fr) (x:E) (s:St):aN fun g=>(fns M g).es d q fr x s:=fun _ _ h=>(Ej M h).es d q fr x s
theorem acn (M:Ms) (d:Nat) (q:Nm) (p:aX) (a:List Int) (s:St):aN fun g=>(fns M g).c d q p a s:=fun _ _ h=>(Ej M h).c d q p a s
theorem zM (M:Ms) (d:Nat) (q:Nm) (fr:Fr) (x:S) (s:St):aN fun g=>(fns M g).b d q fr x s:=fun _ _ h=>(Ej M h).b d q fr x s
theorem Hw (M:Ms) (d:Nat) (q:Nm) (fr:Fr) (v:E) (t:S) (s:St):aN fun g=>(fns M g).l d q fr v t s:=fun _ _ h=>(Ej M h).l d q fr v t s
theorem aN.bind {α β:Type} {f:Nat→O α} {k:Nat→α→St→O β} (hf:aN f) (hk : ∀ a s,aN (fun g=>k g a s)):aN fun g=>(f g).bind (k g):=fun g g' h=>(hf g g' h).bind fun a s=>hk a s g g' h
theorem Fin.succ {α:Type} {f h:Nat→O α} (k:Fin f) (e : ∀ g,h (g + 1)=f g):Fin h:=by
 obtain⟨g,hg⟩:=k;exact⟨g + 1,by rw [e];exact hg⟩
theorem El {M:Ms} {g d:Nat} {q:Nm} {fr:Fr} {x:E} {s s':St} {n:Int} (h : (fns M g).e d q fr x s = .ok n s') : s'.fuel≤s.fuel ∧ ∀ q n,(s'.vs q n).map List.length=(s.vs q n).map List.length:=by
 have h1:=(along zm M g).e d q fr x s;have h2:=(along zn M g).e d q fr x s;rw [h] at h1 h2;exact⟨h1,h2⟩
theorem aco {M:Ms} {g d:Nat} {q:Nm} {fr:Fr} {x:E} {s s':St} {n:List Int} (h : (fns M g).es d q fr x s = .ok n s') : s'.fuel≤s.fuel ∧ ∀ q n,(s'.vs q n).map List.length=(s.vs q n).map List.length:=by
 have h1:=(along zm M g).es d q fr x s;have h2:=(along zn M g).es d q fr x s;rw [h] at h1 h2;exact⟨h1,h2⟩
theorem acp {M:Ms} {g d:Nat} {q:Nm} {fr:Fr} {x:S} {s s':St} {n:Fl × Fr} (h : (fns M g).b d q fr x s = .ok n s') : s'.fuel≤s.fuel ∧ ∀ q n,(s'.vs q n).map List.length=(s.vs q n).map List.length:=by
 have h1:=(along zm M g).b d q fr x s;have h2:=(along zn M g).b d q fr x s;rw [h] at h1 h2;exact⟨h1,h2⟩
theorem SH (M:Ms) : ∀ (g d:Nat) (q:Nm) (fr:Fr) (x:E) (s s':St) (l:List Int),(fns M g).es d q fr x s = .ok l s'→l.length=dx x
 | 0,_,_,_,_,_,_,_,h=>by cases h
 | g + 1,d,q,fr,x,s,s',l,h=>by
  change xq (fns M g) d q fr x s=_ at h
  cases x with
  | nil=>cases h;rfl
  | cons x r=>
   change ((fns M g).e d q fr x s).bind (fun n s=>((fns M g).es d q fr r s).bind fun l s=>.ok (n :: l) s)=_ at h
   cases h1 : (fns M g).e d q fr x s with
   | stuck=>rw [h1] at h;cases h
   | stop w s=>rw [h1] at h;cases h
   | ok n s1=>
    rw [h1] at h
    change ((fns M g).es d q fr r s1).bind (fun l s=>.ok (n :: l) s)=_ at h
    cases h2 : (fns M g).es d q fr r s1 with
    | stuck=>rw [h2] at h;cases h
    | stop w s=>rw [h2] at h;cases h
    | ok l2 s2=>
     rw [h2] at h;cases h
     have:=SH M g d q fr r s1 _ l2 h2;simp [dx,this]
  | num _ _=>cases h
  | var _ _ _=>cases h
  | item _ _ _ _=>cases h
  | un _ _ _=>cases h
  | bin _ _ _ _=>cases h
  | app _ _ _ _=>cases h
def vI (fr fr':Fr):Prop:=∀ n,(eH fr' n).isSome=(eH fr n).isSome
theorem vI.trans {a b c:Fr} (h:vI a b) (k:vI b c):vI a c:=fun n=>(k n).trans (h n)
def ed (fr:Fr):O (Fl × Fr)→Prop
 | .ok x _=>vI fr x.2
 | _=>True
theorem ed.bind {α:Type} {fr:Fr} {o:O α} {f : α→St→O (Fl × Fr)} (k : ∀ a s,ed fr (f a s)):ed fr (o.bind f):=by
 cases o with
 | ok a s=>exact k a s
 | stop w s=>trivial
 | stuck=>trivial
theorem ed.SI {fr:Fr} {o:O (Fl × Fr)} {f:Fl × Fr→St→O (Fl × Fr)} (h:ed fr o) (k : ∀ x s,vI fr x.2→ed x.2 (f x s)):ed fr (o.bind f):=by
 cases o with
 | ok a s=>
  have:=k a s h
  show ed fr (f a s)
  cases hf : f a s with
  | ok x s=>rw [hf] at this;exact vI.trans h this
  | stop w s=>trivial
  | stuck=>trivial
 | stop w s=>trivial
 | stuck=>trivial
theorem SK (q:Nm) (fr:Fr) (n:Nm) (k v:Int) (s:St):ed fr (jy q fr n k v s):=by
 unfold jy
 cases hg : eH fr n with
 | some u=>
  intro j
  show (eH (jX fr n v) j).isSome=_
  rw [LP];split
  ·next e=>subst e;simp [hg]
  ·rfl
 | none=>
  simp only;split
  ·trivial
  ·split
   ·exact fun _=>rfl
   ·trivial
theorem LW (M:Ms) : ∀ g,(∀ d q fr x s,ed fr ((fns M g).b d q fr x s)) ∧ ∀ d q fr v t s,ed fr ((fns M g).l d q fr v t s)
 | 0=>⟨fun _ _ _ _ _=>trivial,fun _ _ _ _ _ _=>trivial⟩
 | g + 1=>by
  obtain⟨hb,hl⟩:=LW M g;refine⟨fun d q fr x s=>?_,fun d q fr v t s=>?_⟩
  ·show ed fr (oU (fns M g) d q fr x s)
   unfold oU
   split
   ·exact fun _=>rfl
   ·unfold andThen
    refine ed.SI ?_ fun x s h=>?_
    ·cases x with
     | nil=>trivial
     | set p n i v r=>exact ed.bind fun _ _=>ed.bind fun _ _=>ed.bind fun _ _=>SK _ _ _ _ _ _
     | ifs p v t e r=>exact ed.bind fun _ _=>ed.bind fun n _=>by split <;> exact hb _ _ _ _ _
     | dE p v t r=>exact ed.bind fun _ _=>hl _ _ _ _ _ _
     | ret p v r=>exact ed.bind fun _ _=>ed.bind fun _ _=>fun _=>rfl
     | dI p v r=>exact ed.bind fun _ _=>ed.bind fun _ _=>by split;trivial;exact fun _=>rfl
     | call p v r=>exact ed.bind fun _ _=>ed.bind fun _ _=>fun _=>rfl
    ·split
     ·exact hb _ _ _ _ _
     ·exact fun _=>rfl
  ·show ed fr (zl (fns M g) d q fr v t s)
   refine ed.bind fun n s=>?_
   split
   ·exact fun _=>rfl
   ·refine ed.SI (hb _ _ _ _ _) fun x s h=>?_
    split
    ·exact ed.bind fun _ _=>hl _ _ _ _ _ _
    ·exact fun _=>rfl
theorem Loc.same {lo:List Nm} {fr fr':Fr} (h:Loc lo fr) (k:vI fr fr'):Loc lo fr':=fun n=>by rw [h n,k n]
theorem acr {M:Ms} {g d:Nat} {q:Nm} {fr:Fr} {x:S} {s s':St} {r:Fl × Fr} {lo:List Nm} (hl:Loc lo fr) (h : (fns M g).b d q fr x s = .ok r s'):Loc lo r.2:=by
 have:=(LW M g).1 d q fr x s;rw [h] at this;exact hl.same this
theorem SL {R:St→St→Prop} (K:Dy R) {F:lJ} (h:Gy R F) (d:Nat) (q:Nm) (fr:Fr) (x:S) (s:St):Al R s (qh F d q fr x s):=by
 cases x with
 | nil=>trivial
 | set p n i v r=>
  refine Al.bind K (oQ K _) fun _ s'=>Al.bind K ?_ fun k s'=>Al.bind K (h.e _ _ _ _ _) fun v s'=>KC K _ _ _ _ _ _
  cases i with
  | none=>exact K.refl s'
  | some i=>exact h.e _ _ _ _ _
 | ifs p v t e r=>
  refine Al.bind K (oQ K _) fun _ s'=>Al.bind K (h.e _ _ _ _ _) fun n s'=>?_
  split
  ·exact h.b _ _ _ _ _
  ·exact h.b _ _ _ _ _
 | dE p v t r=>exact Al.bind K (oQ K _) fun _ s'=>h.l _ _ _ _ _ _
 | ret p v r=>exact Al.bind K (oQ K _) fun _ s'=>Al.bind K (h.e _ _ _ _ _) fun _ s'=>K.refl s'
 | dI p v r=>
  refine Al.bind K (oQ K _) fun _ s'=>Al.bind K (h.e _ _ _ _ _) fun n s'=>?_
  split
  ·exact K.refl s'
  ·exact K.out _ _ ‹_›
 | call p v r=>exact Al.bind K (oQ K _) fun _ s'=>Al.bind K (h.e _ _ _ _ _) fun _ s'=>K.refl s'
theorem acs (M:Ms) (g d:Nat) (q:Nm) (fr:Fr) (x:S) (s:St):ed fr (qh (fns M g) d q fr x s):=by
 obtain⟨hb,hl⟩:=LW M g;cases x with
 | nil=>trivial
 | set p n i v r=>exact ed.bind fun _ _=>ed.bind fun _ _=>ed.bind fun _ _=>SK _ _ _ _ _ _
 | ifs p v t e r=>exact ed.bind fun _ _=>ed.bind fun n _=>by split <;> exact hb _ _ _ _ _
 | dE p v t r=>exact ed.bind fun _ _=>hl _ _ _ _ _ _
 | ret p v r=>exact ed.bind fun _ _=>ed.bind fun _ _=>fun _=>rfl
 | dI p v r=>exact ed.bind fun _ _=>ed.bind fun _ _=>by split;trivial;exact fun _=>rfl
 | call p v r=>exact ed.bind fun _ _=>ed.bind fun _ _=>fun _=>rfl
theorem acu {M:Ms} {g d:Nat} {q:Nm} {fr:Fr} {x:S} {s s':St} {r:Fl × Fr} (h : qh (fns M g) d q fr x s = .ok r s') : s'.fuel≤s.fuel∧(∀ q n,(s'.vs q n).map List.length=(s.vs q n).map List.length)∧vI fr r.2:=by
 have h1:=SL zm (along zm M g) d q fr x s;have h2:=SL zn (along zn M g) d q fr x s;have h3:=acs M g d q fr x s;rw [h] at h1 h2 h3;exact⟨h1,h2,h3⟩
end Go.Mq.Run
namespace Go.Mq.Run
open Go Go.RowKit Go.Mq Go.Mq.Tree Go.Mq.Sym
open Go.Mq.Check (Env oH bA aQ lG dV ic dx check Out kU FW fI JK)
theorem LX {α:Type} (k : α→Nm) (v : α→Int) (n:Nm) : ∀ (l:List α) (fr:Fr),(eH (l.foldl (fun f x=>jX f (k x) (v x)) fr) n).isSome↔n∈l.map k∨(eH fr n).isSome
 | [],fr=>by simp
 | x :: r,fr=>by
  rw [List.foldl_cons,LX k v n r,LP,List.map_cons,List.mem_cons];by_cases h : k x=n
  ·simp [h]
  ·simp [h,Ne.symm h]
theorem acv {p:aX} {args:List Int} (h : p.params.length≤args.length):Loc (p.params ++ p.vars) (frame p args):=fun n=>by
 unfold frame
 rw [LX (fun n=>n) (fun _=>0),LX (fun(x:Nm × Int)=>x.1) (fun x=>x.2),List.map_id',List.map_fst_zip h,List.mem_append];simp [eH,or_comm]
structure Safe (M:Ms) (N k:Nat):Prop where
 e : ∀ d q m lo fr x s,M q=some m→30≤d + k→d≤30→s.fuel≤N→Loc lo fr→Shape M s.vs→WF x→x.oC→bA (qo M m lo) x=none→Fin fun g=>(fns M g).e d q fr x s
 b : ∀ d q m lo fr x s dd,M q=some m→30≤d + k→d≤30→s.fuel≤N→Loc lo fr→Shape M s.vs→gI dd x→aQ (qo M m lo) x=none→Fin fun g=>(fns M g).b d q fr x s
 l : ∀ d q m lo fr v t s dd,M q=some m→30≤d + k→d≤30→s.fuel≤N→Loc lo fr→Shape M s.vs→WF v→v.oC→bA (qo M m lo) v=none→gI dd t→aQ (qo M m lo) t=none→Fin fun g=>(fns M g).l d q fr v t s
def SN (M:Ms) (N k:Nat):Prop:=∀ d q m p args s,M q=some m→p∈m.procs→p.params.length≤args.length→30≤d + k→d≤30→s.fuel≤N→Shape M s.vs→Fin fun g=>(fns M g).c d q p args s
section
variable {M:Ms} (hM:zL M)
include hM
theorem acw {q:Nm} {m:Mod} (hq:M q=some m) {p:aX} (hp : p∈m.procs) : aQ (qo M m (p.params ++ p.vars)) p.body=none∧gI 10 p.body:=by
 have h1:=((kU _ _).1 (hM.fine q m hq)).2.2.1 p hp
 unfold lG at h1
 exact⟨(Option.or_eq_none_iff.1 h1).2,((hM.good q m hq).1.wf.procs p hp).body⟩
theorem SQ {N k:Nat} (h : ∀ k',k=k' + 1→Safe M N k'):SN M N k:=fun d q m p args s hq hp ha hk hd hf hs=>by
 refine Fin.succ (f:=fun g=>mg (fns M g) d q p args s) ?_ fun _=>rfl
 by_cases uZ : d=30
 ·refine⟨0,?_⟩
  show mg (fns M 0) d q p args s≠_
  unfold mg;rw [if_pos uZ];intro h;cases h
 ·obtain⟨k',rfl⟩ : ∃ k',k=k' + 1:=⟨k - 1,by omega⟩
  obtain⟨h1,h2⟩:=acw hM hq hp;have hb:=(h k' rfl).b (d + 1) q m _ (frame p args) p.body s 10 hq (by omega) (by omega) hf (acv ha) hs h2 h1;have e : (fun g=>mg (fns M g) d q p args s)=fun g=>((fns M g).b (d + 1) q (frame p args) p.body s).bind fun r s=>.ok (match r.1 with | .go=>0 | .ret n=>n) s:=by
   funext g;unfold mg;rw [if_neg uZ,if_neg (by omega)];rfl
  rw [e];exact Fin.bind (zM M _ _ _ _ _) (fun _ _=>aN.const _) hb fun g a s' _=>.const (by intro h;cases h)
theorem acx {N k:Nat} (hc:SN M N k) (d:Nat) (q:Nm) (m:Mod) (lo:List Nm) (fr:Fr) (hq:M q=some m) (hk : 30≤d + k) (hd : d≤30) (hl:Loc lo fr) (x:E) : ∀ s,s.fuel≤N→Shape M s.vs→WF x→bA (qo M m lo) x=none→(x.oC→Fin fun g=>(fns M g).e d q fr x s)∧(x.Aq→Fin fun g=>(fns M g).es d q fr x s):=by
 induction x with
 | num p n=>exact fun s _ _ _ _=>⟨fun _=>Fin.succ (f:=fun _=>.ok n s) (.const (by intro h;cases h)) fun _=>rfl,fun h=>h.elim⟩
 | nil=>exact fun s _ _ _ _=>⟨fun h=>h.elim,fun _=>Fin.succ (f:=fun _=>.ok [] s) (.const (by intro h;cases h)) fun _=>rfl⟩
 | var p mm n=>
  refine fun s hf hs hw hx=>⟨fun _=>?_,fun h=>h.elim⟩
  rw [bA] at hx;obtain⟨sy,h1,h2⟩:=LU hx;have ha : ¬ (0≤sy.args∨0 < sy.len):=by
   intro h;rw [if_pos h] at h2;cases h2
  refine Fin.succ (f:=fun g=>mf M (fns M g) d q fr (.var p mm n) s) ?_ fun _=>rfl
  by_cases hm : mm=[]
  ·subst hm
   rcases SC h1 with⟨hlo,_⟩|⟨hlo,hg|⟨x,_,rfl,_⟩⟩
   ·obtain⟨v,hv⟩:=Option.isSome_iff_exists.1 ((hl n).1 hlo)
    exact⟨0,by simp [mf,hv]⟩
   ·obtain⟨g,hg,_,hgn⟩:=hg
    have hn : eH fr n=none:=by
     cases hv : eH fr n with
     | none=>rfl
     | some v=>exact absurd ((hl n).2 (by simp [hv])) hlo
    obtain⟨l,hl1,hl2⟩:=hs q m hq g hg;rw [hgn] at hl1;have:=SB g;cases l with
    | nil=>simp at hl2;omega
    | cons v r=>exact⟨0,by simp [mf,hn,hl1,jv]⟩
   ·exact absurd (.inl (by simp)) ha
  ·obtain⟨_,mo,hmo,hg|⟨x,_,rfl,_⟩⟩:=LQ hm h1
   ·obtain⟨g,hg,_,hgn⟩:=hg
    obtain⟨l,hl1,hl2⟩:=hs mm mo hmo g hg;rw [hgn] at hl1;have:=SB g;cases l with
    | nil=>simp at hl2;omega
    | cons v r=>exact⟨0,by simp [mf,hm,hl1,jv]⟩
   ·exact absurd (.inl (by simp [tC])) ha
 | item p mm n i ih=>
  refine fun s hf hs hw hx=>⟨fun _=>?_,fun h=>h.elim⟩
  rw [bA] at hx;obtain⟨hx1,hx2⟩:=Option.or_eq_none_iff.1 hx;obtain⟨sy,h1,h2⟩:=LU hx1;have hsome : (M (dC q mm)).isSome=true:=by
   by_cases hm : mm=[]
   ·subst hm;rw [SE,hq];rfl
   ·obtain⟨_,mo,hmo,_⟩:=LQ hm h1
    rw [SF hm,hmo];rfl
  refine Fin.succ (f:=fun g=>((fns M g).e d q fr i s).bind fun k s=>j4 (s.vs (dC q mm) n) k s) ?_ fun g=>by
   show (if (M (dC q mm)).isSome then _ else _)=_
   rw [if_pos hsome]
  refine Fin.bind (gM M _ _ _ _ _) (fun _ _=>aN.const _) ((ih s hf hs hw.2.2.1 hx2).1 hw.2.2.2) fun g a s' _=>.const ?_
  unfold j4
  split
  ·intro h;cases h
  ·split <;> (intro h;cases h)
 | un p op x ih=>
  refine fun s hf hs hw hx=>⟨fun _=>?_,fun h=>h.elim⟩
  rw [bA] at hx;refine Fin.succ (f:=fun g=>((fns M g).e d q fr x s).bind fun n s=>.ok (if op=[45] then wr (-n) else one (n == 0)) s) ?_ fun g=>rfl
  exact Fin.bind (gM M _ _ _ _ _) (fun _ _=>aN.const _) ((ih s hf hs hw.2.1 hx).1 hw.2.2) fun g a s' _=>.const (by intro h;cases h)
 | bin p op x y ih1 ih2=>
  refine fun s hf hs hw hx=>⟨fun _=>?_,fun h=>h.elim⟩
  rw [bA] at hx;obtain⟨hx1,hx2⟩:=Option.or_eq_none_iff.1 hx;refine Fin.succ (f:=fun g=>((fns M g).e d q fr x s).bind fun a s=>
   if op=[97,110,100]∨op=[111,114] then
    if (a != 0)=decide (op=[111,114]) then .ok (one (a != 0)) s else ((fns M g).e d q fr y s).bind fun b s=>.ok (one (b != 0)) s
   else ((fns M g).e d q fr y s).bind fun b s=>match both op a b with
    | some n=>.ok n s
    | none=>.stop 2 s) ?_ fun g=>rfl
  refine Fin.bind (gM M _ _ _ _ _) (fun a s=>?_) ((ih1 s hf hs hw.2.1.1 hx1).1 hw.2.1.2) fun g a s' hs'=>?_
  ·split
   ·split
    ·exact aN.const _
    ·exact aN.bind (gM M _ _ _ _ _) fun _ _=>aN.const _
   ·exact aN.bind (gM M _ _ _ _ _) fun _ _=>aN.const _
  ·have ha:=El hs'
   have hy:=(ih2 s' (by omega) (hs.al ha.2) hw.2.2.1 hx2).1 hw.2.2.2;split
   ·split
    ·exact .const (by intro h;cases h)
    ·exact Fin.bind (gM M _ _ _ _ _) (fun _ _=>aN.const _) hy fun g a s' _=>.const (by intro h;cases h)
   ·exact Fin.bind (gM M _ _ _ _ _) (fun _ _=>aN.const _) hy fun g a s' _=>.const (by split <;> (intro h;cases h))
 | cons x r ih1 ih2=>
  refine fun s hf hs hw hx=>⟨fun h=>h.elim,fun _=>?_⟩
  rw [bA] at hx;obtain⟨hx1,hx2⟩:=Option.or_eq_none_iff.1 hx;refine Fin.succ (f:=fun g=>((fns M g).e d q fr x s).bind fun n s=>((fns M g).es d q fr r s).bind fun l s=>.ok (n :: l) s) ?_ fun g=>rfl
  refine Fin.bind (gM M _ _ _ _ _) (fun a s=>aN.bind (LV M _ _ _ _ _) fun _ _=>aN.const _) ((ih1 s hf hs hw.1.1 hx1).1 hw.1.2) fun g a s' hs'=>?_
  have ha:=El hs';exact Fin.bind (LV M _ _ _ _ _) (fun _ _=>aN.const _) ((ih2 s' (by omega) (hs.al ha.2) hw.2.1 hx2).2 hw.2.2) fun g a s' _=>.const (by intro h;cases h)
 | app p mm n l ih=>
  refine fun s hf hs hw hx=>⟨fun _=>?_,fun h=>h.elim⟩
  rw [bA] at hx;obtain⟨hx1,hx2⟩:=Option.or_eq_none_iff.1 hx;obtain⟨sy,h1,h2⟩:=LU hx1;have ha : 0≤sy.args:=by
   by_cases h : 0≤sy.args
   ·exact h
   ·rw [if_pos h] at h2;cases h2
  rw [if_neg (by simpa using ha)] at h2;have hn : (dx l:Int)=sy.args:=by
   by_cases h : (dx l:Int)≠sy.args
   ·rw [if_pos h] at h2;cases h2
   ·simpa using h
  obtain⟨mo,x,hmo,hxm,yJ,hxa⟩ : ∃ mo x,M (dC q mm)=some mo∧x∈mo.procs∧x.name=n∧(x.params.length:Int)=sy.args:=by
   by_cases hm : mm=[]
   ·subst hm
    rw [SE];rcases SC h1 with⟨_,h,_⟩|⟨_,⟨g,_,rfl,_⟩|⟨x,hx,rfl,yJ⟩⟩
    ·omega
    ·simp at ha
    ·exact⟨m,x,hq,hx,yJ,rfl⟩
   ·rw [SF hm]
    obtain⟨_,mo,hmo,⟨g,_,rfl,_⟩|⟨x,hx,rfl,yJ⟩⟩:=LQ hm h1
    ·simp [pU] at ha
    ·exact⟨mo,x,hmo,hx,yJ,rfl⟩
  have vJ:=acm (ack hM hmo) hxm;rw [yJ] at vJ;refine Fin.succ (f:=fun g=>((fns M g).es d q fr l s).bind fun args s=>(fns M g).c d (dC q mm) x args s) ?_ fun g=>by
   show (match M (dC q mm) with
    | none=>O.stuck
    | some mo=>match mo.procs.find? fun(p:aX)=>p.name == n with
     | none=>.stuck
     | some p=>((fns M g).es d q fr l s).bind fun args s=>(fns M g).c d (dC q mm) p args s)=_
   rw [hmo];simp only;rw [vJ]
  refine Fin.bind (LV M _ _ _ _ _) (fun a s=>acn M _ _ _ _ _) ((ih s hf hs hw.2.2.1 hx2).2 hw.2.2.2) fun g a s' hs'=>?_
  have hal:=aco hs';have hlen:=SH M _ _ _ _ _ _ _ _ hs';exact hc d (dC q mm) mo x a s' hmo hxm (by omega) hk hd (by omega) (hs.al hal.2)
omit hM in
theorem SS (s:St) : tick s ≠ .stuck:=by unfold tick;split <;> (intro h;cases h)
omit hM in
theorem SX {s s':St} {u:Unit} (h : tick s = .ok u s') : s.fuel≠0∧s'.fuel + 1=s.fuel∧s'.vs=s.vs:=by
 unfold tick at h
 split at h
 ·cases h
 ·cases h;exact⟨‹_›,by show s.fuel - 1 + 1=_;omega,rfl⟩
omit hM in
theorem SY (q:Nm) (fr:Fr) (n:Nm) (k v:Int) (s:St) : jy q fr n k v s ≠ .stuck:=by
 unfold jy
 split
 ·intro h;cases h
 ·split
  ·intro h;cases h
  ·split <;> (intro h;cases h)
omit hM in
theorem acy (M:Ms) (d:Nat) (q:Nm) (fr:Fr) (x:S) (s:St):aN fun g=>qh (fns M g) d q fr x s:=by
 cases x with
 | nil=>exact aN.const _
 | set p n i v r=>
  refine aN.bind (aN.const _) fun _ s=>aN.bind ?_ fun _ _=>aN.bind (gM M _ _ _ _ _) fun _ _=>aN.const _
  cases i with
  | none=>exact aN.const _
  | some i=>exact gM M _ _ _ _ _
 | ifs p v t e r=>exact aN.bind (aN.const _) fun _ s=>aN.bind (gM M _ _ _ _ _) fun n s=>by split <;> exact zM M _ _ _ _ _
 | dE p v t r=>exact aN.bind (aN.const _) fun _ s=>Hw M _ _ _ _ _ _
 | ret p v r=>exact aN.bind (aN.const _) fun _ s=>aN.bind (gM M _ _ _ _ _) fun n s=>aN.const _
 | dI p v r=>exact aN.bind (aN.const _) fun _ s=>aN.bind (gM M _ _ _ _ _) fun n s=>aN.const _
 | call p v r=>exact aN.bind (aN.const _) fun _ s=>aN.bind (gM M _ _ _ _ _) fun n s=>aN.const _
def S9 (M:Ms) (N k:Nat):Prop:=∀ d q m lo fr x s,M q=some m→30≤d + k→d≤30→s.fuel≤N→Loc lo fr→Shape M s.vs→WF x→x.oC→bA (qo M m lo) x=none→Fin fun g=>(fns M g).e d q fr x s
omit hM in
theorem acz {N k:Nat} (he:S9 M N k) (hN : ∀ N',N' < N→Safe M N' k) (d:Nat) (q:Nm) (m:Mod) (lo:List Nm) (hq:M q=some m) (hk : 30≤d + k) (hd : d≤30) (x:S) : ∀ fr s dd,s.fuel≤N→Loc lo fr→Shape M s.vs→gI dd x→aQ (qo M m lo) x=none→Fin fun g=>(fns M g).b d q fr x s:=by
 have hgo : ∀ (x:S) (fr:Fr) (s:St),x.len≠0→s.fuel≤N→Loc lo fr→Shape M s.vs→(∀ fr s,s.fuel≤N→Loc lo fr→Shape M s.vs→Fin fun g=>(fns M g).b d q fr (rest x) s)→Fin (fun g=>qh (fns M g) d q fr x s)→Fin fun g=>(fns M g).b d q fr x s:=fun x fr s hn hf hl hs hr h=>by
  refine Fin.succ (f:=fun g=>(qh (fns M g) d q fr x s).bind fun y s=>match y.1 with
   | .go=>(fns M g).b d q y.2 (rest x) s
   | .ret n=>.ok (.ret n,y.2) s) ?_ fun g=>by
    show oU (fns M g) d q fr x s=_
    unfold oU
    rw [if_neg hn];rfl
  refine Fin.bind (acy M d q fr x s) (fun a s=>?_) h fun g a s' hs'=>?_
  ·cases a.1 with
   | go=>exact zM M _ _ _ _ _
   | ret n=>exact aN.const _
  ·obtain⟨h1,h2,h3⟩:=acu hs'
   cases a.1 with
   | go=>exact hr _ _ (by omega) (hl.same h3) (hs.al h2)
   | ret n=>exact .const (by intro h;cases h)
 have Bt : ∀ (s:St) (k:Nat→Unit→St→O (Fl × Fr)),s.fuel≤N→Shape M s.vs→(∀ a s,aN fun g=>k g a s)→(∀ s',s'.fuel < N→s'.fuel≤N→Shape M s'.vs→Fin fun g=>k g () s')→Fin fun g=>(tick s).bind (k g):=fun s k hf hs hm h=>by
  refine Fin.bind (f:=fun _=>tick s) (aN.const _) hm (.const (SS s)) fun g a s' hs'=>?_
  obtain⟨h1,h2,h3⟩:=SX hs';exact h s' (by omega) (by omega) (by rw [h3];exact hs)
 induction x with
 | nil=>exact fun fr s dd _ _ _ _ _=>Fin.succ (f:=fun _=>.ok (.go,fr) s) (.const (by intro h;cases h)) fun g=>rfl
 | set p n i v r ih=>
  intro fr s dd hf hl hs hw hx;have hx' : (∀ y,i=some y→bA (qo M m lo) y=none)∧bA (qo M m lo) v=none∧aQ (qo M m lo) r=none:=by
   cases i with
   | none=>
    rw [Go.Mq.Check.aQ] at hx;obtain⟨h1,h2⟩:=Option.or_eq_none_iff.1 hx;exact⟨fun _ h=>(by cases h),(Option.or_eq_none_iff.1 h1).2,h2⟩
   | some y=>
    rw [Go.Mq.Check.aQ,bA] at hx;obtain⟨h1,h2⟩:=Option.or_eq_none_iff.1 hx;obtain⟨h3,h4⟩:=Option.or_eq_none_iff.1 h1;exact⟨fun _ h=>(by cases h;exact(Option.or_eq_none_iff.1 h3).2),h4,h2⟩
  obtain⟨hwn,Ta,hwv,hwr⟩:=hw;refine hgo _ fr s (by simp [S.len]) hf hl hs (fun fr s h1 h2 h3=>ih fr s dd h1 h2 h3 hwr hx'.2.2) ?_;refine Bt s (fun g _ s=>(Gx (fns M g) d q fr i s).bind fun k s=>((fns M g).e d q fr v s).bind fun v s=>jy q fr n k v s) hf hs (fun _ s=>aN.bind ?_ fun _ _=>aN.bind (gM M _ _ _ _ _) fun _ _=>aN.const _) fun s' _ hf' hs'=>?_
  ·cases i with
   | none=>exact aN.const _
   | some i=>exact gM M _ _ _ _ _
  ·have hv : ∀ s,s.fuel≤N→Shape M s.vs→Fin fun g=>(fns M g).e d q fr v s:=fun s h1 h2=>he d q m lo fr v s hq hk hd h1 hl h2 hwv.1.1 hwv.1.2 hx'.2.1
   cases i with
   | none=>
    refine Fin.bind (f:=fun _=>.ok 0 s') (aN.const _) (fun _ _=>aN.bind (gM M _ _ _ _ _) fun _ _=>aN.const _) (.const (by intro h;cases h)) fun g a s2 h2=>?_
    cases h2
    exact Fin.bind (gM M _ _ _ _ _) (fun _ _=>aN.const _) (hv s' hf' hs') fun g a s3 _=>.const (SY _ _ _ _ _ _)
   | some i=>
    refine Fin.bind (gM M _ _ _ _ _) (fun _ _=>aN.bind (gM M _ _ _ _ _) fun _ _=>aN.const _) (he d q m lo fr i s' hq hk hd hf' hl hs' (Ta i rfl).1.1 (Ta i rfl).1.2 (hx'.1 i rfl)) fun g a s2 h2=>?_
    have ha:=El h2;exact Fin.bind (gM M _ _ _ _ _) (fun _ _=>aN.const _) (hv s2 (by omega) (hs'.al ha.2)) fun g a s3 _=>.const (SY _ _ _ _ _ _)
 | ifs p v t e r ih1 ih2 ih3=>
  intro fr s dd hf hl hs hw hx;rw [Go.Mq.Check.aQ] at hx;obtain⟨h1,vK⟩:=Option.or_eq_none_iff.1 hx;obtain⟨h2,hxe⟩:=Option.or_eq_none_iff.1 h1;obtain⟨hxv,hxt⟩:=Option.or_eq_none_iff.1 h2;obtain⟨hwv,⟨⟨_,hwt⟩,_,hwe⟩,hwr⟩:=hw;refine hgo _ fr s (by simp [S.len]) hf hl hs (fun fr s h1 h2 h3=>ih3 fr s dd h1 h2 h3 hwr vK) ?_;refine Bt s (fun g _ s=>((fns M g).e d q fr v s).bind fun n s=>if n=0 then (fns M g).b d q fr e s else (fns M g).b d q fr t s) hf hs (fun _ s=>aN.bind (gM M _ _ _ _ _) fun n s=>by split <;> exact zM M _ _ _ _ _) fun s' _ hf' hs'=>?_
  refine Fin.bind (gM M _ _ _ _ _) (fun n s=>by split <;> exact zM M _ _ _ _ _) (he d q m lo fr v s' hq hk hd hf' hl hs' hwv.1.1 hwv.1.2 hxv) fun g a s2 h2=>?_
  have ha:=El h2;split
  ·exact ih2 fr s2 _ (by omega) hl (hs'.al ha.2) hwe hxe
  ·exact ih1 fr s2 _ (by omega) hl (hs'.al ha.2) hwt hxt
 | dE p v t r ih1 ih2=>
  intro fr s dd hf hl hs hw hx;rw [Go.Mq.Check.aQ] at hx;obtain⟨h1,vK⟩:=Option.or_eq_none_iff.1 hx;obtain⟨hxv,hxt⟩:=Option.or_eq_none_iff.1 h1;obtain⟨hwv,⟨_,hwt⟩,hwr⟩:=hw;refine hgo _ fr s (by simp [S.len]) hf hl hs (fun fr s h1 h2 h3=>ih2 fr s dd h1 h2 h3 hwr vK) ?_;refine Bt s (fun g _ s=>(fns M g).l d q fr v t s) hf hs (fun _ s=>Hw M _ _ _ _ _ _) fun s' hlt hf' hs'=>?_
  exact(hN s'.fuel hlt).l d q m lo fr v t s' _ hq hk hd (Nat.le_refl _) hl hs' hwv.1.1 hwv.1.2 hxv hwt hxt
 | ret p v r ih=>
  intro fr s dd hf hl hs hw hx;rw [Go.Mq.Check.aQ] at hx;obtain⟨hxv,vK⟩:=Option.or_eq_none_iff.1 hx;obtain⟨hwv,hwr⟩:=hw;refine hgo _ fr s (by simp [S.len]) hf hl hs (fun fr s h1 h2 h3=>ih fr s dd h1 h2 h3 hwr vK) ?_;refine Bt s (fun g _ s=>((fns M g).e d q fr v s).bind fun n s=>.ok (.ret n,fr) s) hf hs (fun _ s=>aN.bind (gM M _ _ _ _ _) fun n s=>aN.const _) fun s' _ hf' hs'=>?_
  exact Fin.bind (gM M _ _ _ _ _) (fun _ _=>aN.const _) (he d q m lo fr v s' hq hk hd hf' hl hs' hwv.1.1 hwv.1.2 hxv) fun g a s2 _=>.const (by intro h;cases h)
 | dI p v r ih=>
  intro fr s dd hf hl hs hw hx;rw [Go.Mq.Check.aQ] at hx;obtain⟨hxv,vK⟩:=Option.or_eq_none_iff.1 hx;obtain⟨hwv,hwr⟩:=hw;refine hgo _ fr s (by simp [S.len]) hf hl hs (fun fr s h1 h2 h3=>ih fr s dd h1 h2 h3 hwr vK) ?_;refine Bt s (fun g _ s=>((fns M g).e d q fr v s).bind fun n s=>if s.out.length=200 then .stop 6 s else .ok (.go,fr) { s with out:=s.out ++ [n] }) hf hs (fun _ s=>aN.bind (gM M _ _ _ _ _) fun n s=>aN.const _) fun s' _ hf' hs'=>?_
  exact Fin.bind (gM M _ _ _ _ _) (fun _ _=>aN.const _) (he d q m lo fr v s' hq hk hd hf' hl hs' hwv.1.1 hwv.1.2 hxv) fun g a s2 _=>.const (by split <;> (intro h;cases h))
 | call p v r ih=>
  intro fr s dd hf hl hs hw hx;rw [Go.Mq.Check.aQ] at hx;obtain⟨hxv,vK⟩:=Option.or_eq_none_iff.1 hx;obtain⟨⟨hwv,_⟩,hwr⟩:=hw;refine hgo _ fr s (by simp [S.len]) hf hl hs (fun fr s h1 h2 h3=>ih fr s dd h1 h2 h3 hwr vK) ?_;refine Bt s (fun g _ s=>((fns M g).e d q fr v s).bind fun _ s=>.ok (.go,fr) s) hf hs (fun _ s=>aN.bind (gM M _ _ _ _ _) fun n s=>aN.const _) fun s' _ hf' hs'=>?_
  exact Fin.bind (gM M _ _ _ _ _) (fun _ _=>aN.const _) (he d q m lo fr v s' hq hk hd hf' hl hs' hwv.1.1 hwv.1.2 hxv) fun g a s2 _=>.const (by intro h;cases h)
theorem Tc {N:Nat} (k:Nat) (hk : ∀ k',k=k' + 1→Safe M N k') (hN : ∀ N',N' < N → ∀ k,Safe M N' k):Safe M N k:=by
 have hc:=SQ hM hk;have he:S9 M N k:=fun d q m lo fr x s hq hk hd hf hl hs hw hx hxx=>(acx hM hc d q m lo fr hq hk hd hl x s hf hs hw hxx).1 hx
 have hb:=fun d q m lo fr x s dd hq h1 h2 h3 h4 h5 h6 h7=>acz (M:=M) he (fun N' h=>hN N' h k) d q m lo hq h1 h2 x fr s dd h3 h4 h5 h6 h7
 refine⟨he,hb,fun d q m lo fr v t s dd hq h1 h2 hf hl hs hwv hxv hcv hwt hct=>?_⟩;refine Fin.succ (f:=fun g=>((fns M g).e d q fr v s).bind fun n s=>
  if n=0 then .ok (.go,fr) s else ((fns M g).b d q fr t s).bind fun x s=>match x.1 with
   | .go=>(tick s).bind fun _ s=>(fns M g).l d q x.2 v t s
   | .ret n=>.ok (.ret n,x.2) s) ?_ fun g=>rfl
 have hmb : ∀ (x:Fl × Fr) (s:St),aN fun g=>(match x.1 with
   | .go=>(tick s).bind fun _ s=>(fns M g).l d q x.2 v t s
   | .ret n=>.ok (.ret n,x.2) s:O (Fl × Fr)):=fun x s=>by
  cases x.1 with
  | go=>exact aN.bind (aN.const _) fun _ _=>Hw M _ _ _ _ _ _
  | ret n=>exact aN.const _
 refine Fin.bind (gM M _ _ _ _ _) (fun n s=>?_) (he d q m lo fr v s hq h1 h2 hf hl hs hwv hxv hcv) fun g n s1 hs1=>?_
 ·split
  ·exact aN.const _
  ·exact aN.bind (zM M _ _ _ _ _) hmb
 ·have ha:=El hs1
  split
  ·exact .const (by intro h;cases h)
  ·refine Fin.bind (zM M _ _ _ _ _) hmb (hb d q m lo fr t s1 dd hq h1 h2 (by omega) hl (hs.al ha.2) hwt hct) fun g x s2 hs2=>?_
   have ha2:=acp hs2;have hl2:=acr hl hs2;cases x.1 with
   | ret n=>exact .const (by intro h;cases h)
   | go=>
    refine Fin.bind (f:=fun _=>tick s2) (aN.const _) (fun _ _=>Hw M _ _ _ _ _ _) (.const (SS s2)) fun g u s3 hs3=>?_
    obtain⟨k1,k2,k3⟩:=SX hs3;exact(hN s3.fuel (by omega) k).l d q m lo x.2 v t s3 dd hq h1 h2 (Nat.le_refl _) hl2 (by rw [k3];exact(hs.al ha.2).al ha2.2) hwv hxv hcv hwt hct
theorem safe (N:Nat) : ∀ k,Safe M N k:=by
 induction N using Nat.strongRecOn with
 | ind N Td=>
  intro k
  induction k with
  | zero=>exact Tc hM 0 (fun k' h=>by omega) Td
  | succ k ih=>exact Tc hM (k + 1) (fun k' h=>by have e : k=k':=(by omega);subst e;exact ih) Td
end
end Go.Mq.Run
namespace Go.Mq.Run
open Go Go.RowKit Go.Mq Go.Mq.Tree Go.Mq.Sym
open Go.Mq.Check (Env oH bA aQ lG dV ic dx check Out kU fU wO CR dX)
open Go.Mq.Used (touch dw iY dA mh Bf fM xG)
def iO (g n:List UInt8):E→Prop
 | .num _ _=>False
 | .var _ a b=>a=g∧b=n
 | .item _ a b i=>(a=g∧b=n)∨iO g n i
 | .un _ _ x=>iO g n x
 | .bin _ _ x y=>iO g n x∨iO g n y
 | .app _ a b l=>(a=g∧b=n)∨iO g n l
 | .nil=>False
 | .cons x r=>iO g n x∨iO g n r
def jO (g n:List UInt8):S→Prop
 | .nil=>False
 | .set _ _ i v r=>(∃ x,i=some x∧iO g n x)∨iO g n v∨jO g n r
 | .ifs _ v t e r=>iO g n v∨jO g n t∨jO g n e∨jO g n r
 | .dE _ v t r=>iO g n v∨jO g n t∨jO g n r
 | .ret _ v r=>iO g n v∨jO g n r
 | .dI _ v r=>iO g n v∨jO g n r
 | .call _ v r=>iO g n v∨jO g n r
def Em (g n:List UInt8) (m:Mod):Prop:=(∃ x∈m.procs,jO g n x.body)∨jO g n m.body
theorem LY {g m n:List UInt8} {l:List (List UInt8)} (hg : g≠[]) (k:List UInt8) : k∈touch g m n l↔k∈l∨(m=g∧n=k):=by
 unfold touch
 split
 ·next h=>simp [h.1,eq_comm]
 ·next h=>
  constructor
  ·exact .inl
  ·rintro(h1|⟨h1,h2⟩)
   ·exact h1
   ·by_cases hk : n∈l
    ·exact h2 ▸ hk
    ·exact absurd ⟨h1,hg,hk⟩ h
theorem zN {g:List UInt8} (hg : g≠[]) (k:List UInt8) (e:E) : ∀ l,k∈dw g e l↔k∈l∨iO g k e:=by
 induction e with
 | num p n=>intro l;simp [dw,iO]
 | var p a b=>intro l;simp only [dw,iO,LY hg]
 | item p a b i ih=>intro l;simp only [dw,iO,ih,LY hg,or_assoc]
 | un p op x ih=>intro l;simp only [dw,iO,ih]
 | bin p op x y ih1 ih2=>intro l;simp only [dw,iO,ih1,ih2,or_assoc]
 | app p a b l2 ih=>intro l;simp only [dw,iO,ih,LY hg,or_assoc]
 | nil=>intro l;simp [dw,iO]
 | cons x r ih1 ih2=>intro l;simp only [dw,iO,ih1,ih2,or_assoc]
theorem acC {g:List UInt8} (hg : g≠[]) (k:List UInt8) (o:Option E) (l:List (List UInt8)) : k∈iY g o l↔k∈l ∨ ∃ x,o=some x∧iO g k x:=by
 cases o with
 | none=>simp [iY]
 | some x=>simp [iY,zN hg]
theorem Te {g:List UInt8} (hg : g≠[]) (k:List UInt8) (s:S) : ∀ l,k∈dA g s l↔k∈l∨jO g k s:=by
 induction s with
 | nil=>intro l;simp [dA,jO]
 | set p n i v r ih=>intro l;simp only [dA,jO,ih,zN hg,acC hg,or_assoc]
 | ifs p v t e r ih1 ih2 ih3=>intro l;simp only [dA,jO,ih1,ih2,ih3,zN hg,or_assoc]
 | dE p v t r ih1 ih2=>intro l;simp only [dA,jO,ih1,ih2,zN hg,or_assoc]
 | ret p v r ih=>intro l;simp only [dA,jO,ih,zN hg,or_assoc]
 | dI p v r ih=>intro l;simp only [dA,jO,ih,zN hg,or_assoc]
 | call p v r ih=>intro l;simp only [dA,jO,ih,zN hg,or_assoc]
theorem Tf {g:List UInt8} (hg : g≠[]) (k:List UInt8) : ∀ (ps:List aX) (l:List (List UInt8)),k∈mh g ps l↔k∈l ∨ ∃ x∈ps,jO g k x.body
 | [],l=>by simp [mh]
 | x :: r,l=>by
  have:=Tf hg k r (dA g x.body l)
  unfold mh at this ⊢
  rw [List.foldl_cons,this,Te hg];simp [or_assoc]
theorem Tg {g:List UInt8} (hg : g≠[]) (k:List UInt8) (m:Mod) : k∈fM g m↔Em g k m:=by
 rw [fM,List.mem_mergeSort,Bf,Te hg,Tf hg,Em];simp
structure uq (s s':Sy):Prop where
 proc : 0≤s.args↔0≤s'.args
 args : 0≤s.args→s.args=s'.args
 len : ¬ 0≤s.args→(0 < s.len↔0 < s'.len)
theorem uq.rfl (s:Sy):uq s s:=⟨Iff.rfl,fun _=>Eq.refl _,fun _=>Iff.rfl⟩
def xO (a b:oH):Prop:=∀ s,a = .is s → ∃ s',b = .is s'∧uq s s'
theorem xO.rfl (a:oH):xO a a:=fun s h=>⟨s,h,.rfl s⟩
theorem LZ {c c':Env} {p:Nat} {m n:List UInt8} {f:Sy→dX} (h:xO (c.find p m n) (c'.find p m n)) (hf : ∀ s s',uq s s'→f s=none→f s'=none) (k : ic c p m n f=none) : ic c' p m n f=none:=by
 unfold ic at k ⊢
 cases hc : c.find p m n with
 | bad e q=>rw [hc] at k;cases k
 | is s=>
  rw [hc] at k;obtain⟨s',h1,h2⟩:=h s hc;rw [h1];exact hf s s' h2 k
theorem acD {p:Nat} (s s':Sy) (h:uq s s') (k : (if 0≤s.args∨0 < s.len then some (1,p) else none:dX)=none) : (if 0≤s'.args∨0 < s'.len then some (1,p) else none:dX)=none:=by
 split at k
 ·cases k
 ·next hn=>
  have h1 : ¬ 0≤s.args:=fun e=>hn (.inl e)
  rw [if_neg];rintro(e|e)
  ·exact h1 (h.proc.2 e)
  ·exact hn (.inr ((h.len h1).2 e))
theorem acE {p:Nat} (s s':Sy) (h:uq s s') (k : (if 0≤s.args∨¬ 0 < s.len then some (1,p) else none:dX)=none) : (if 0≤s'.args∨¬ 0 < s'.len then some (1,p) else none:dX)=none:=by
 split at k
 ·cases k
 ·next hn=>
  have h1 : ¬ 0≤s.args:=fun e=>hn (.inl e)
  rw [if_neg];rintro(e|e)
  ·exact h1 (h.proc.2 e)
  ·exact hn (.inr fun e2=>e ((h.len h1).1 e2))
theorem acF {p k:Nat} (s s':Sy) (h:uq s s') (hk : (if ¬ 0≤s.args then some (1,p) else if (k:Int)≠s.args then some (2,p) else none:dX)=none) : (if ¬ 0≤s'.args then some (1,p) else if (k:Int)≠s'.args then some (2,p) else none:dX)=none:=by
 split at hk
 ·cases hk
 ·next h1=>
  have h1 : 0≤s.args:=Classical.not_not.1 h1;rw [if_neg (Classical.not_not.2 (h.proc.1 h1)),← h.args h1];exact hk
theorem nk {c c':Env} : ∀ e,(∀ p m n,iO m n e→xO (c.find p m n) (c'.find p m n))→bA c e=none→bA c' e=none
 | .num _ _,_,_=>rfl
 | .var p m n,h,k=>by
  rw [bA] at k ⊢;exact LZ (h p m n ⟨rfl,rfl⟩) acD k
 | .item p m n i,h,k=>by
  rw [bA,Option.or_eq_none_iff] at k ⊢;exact⟨LZ (h p m n (.inl ⟨rfl,rfl⟩)) acE k.1,nk i (fun p m n hr=>h p m n (.inr hr)) k.2⟩
 | .un _ _ x,h,k=>by
  rw [bA] at k ⊢;exact nk x (fun p m n hr=>h p m n hr) k
 | .bin _ _ x y,h,k=>by
  rw [bA,Option.or_eq_none_iff] at k ⊢;exact⟨nk x (fun p m n hr=>h p m n (.inl hr)) k.1,nk y (fun p m n hr=>h p m n (.inr hr)) k.2⟩
 | .app p m n l,h,k=>by
  rw [bA,Option.or_eq_none_iff] at k ⊢;exact⟨LZ (h p m n (.inl ⟨rfl,rfl⟩)) acF k.1,nk l (fun p m n hr=>h p m n (.inr hr)) k.2⟩
 | .nil,_,_=>rfl
 | .cons x r,h,k=>by
  rw [bA,Option.or_eq_none_iff] at k ⊢;exact⟨nk x (fun p m n hr=>h p m n (.inl hr)) k.1,nk r (fun p m n hr=>h p m n (.inr hr)) k.2⟩
theorem Hy {c c':Env} (ho : ∀ p n,xO (c.find p [] n) (c'.find p [] n)) (s:S) (h : ∀ p m n,jO m n s→xO (c.find p m n) (c'.find p m n)) (k : aQ c s=none) : aQ c' s=none:=by
 induction s with
 | nil=>rfl
 | set p n i v r ih=>
  cases i with
  | none=>
   rw [Go.Mq.Check.aQ,Option.or_eq_none_iff,Option.or_eq_none_iff] at k ⊢;refine⟨⟨nk _ (fun p m n hr=>?_) k.1.1,nk v (fun p m n hr=>h p m n (.inr (.inl hr))) k.1.2⟩,ih (fun p m n hr=>h p m n (.inr (.inr hr))) k.2⟩;obtain⟨rfl,_⟩:=hr;exact ho _ _
  | some i=>
   rw [Go.Mq.Check.aQ,Option.or_eq_none_iff,Option.or_eq_none_iff] at k ⊢;refine⟨⟨nk _ (fun p m n hr=>?_) k.1.1,nk v (fun p m n hr=>h p m n (.inr (.inl hr))) k.1.2⟩,ih (fun p m n hr=>h p m n (.inr (.inr hr))) k.2⟩;rcases hr with⟨rfl,_⟩|hr
   ·exact ho _ _
   ·exact h p m n (.inl ⟨i,rfl,hr⟩)
 | ifs p v t e r ih1 ih2 ih3=>
  rw [Go.Mq.Check.aQ,Option.or_eq_none_iff,Option.or_eq_none_iff,Option.or_eq_none_iff] at k ⊢;exact⟨⟨⟨nk v (fun p m n hr=>h p m n (.inl hr)) k.1.1.1,ih1 (fun p m n hr=>h p m n (.inr (.inl hr))) k.1.1.2⟩,ih2 (fun p m n hr=>h p m n (.inr (.inr (.inl hr)))) k.1.2⟩,ih3 (fun p m n hr=>h p m n (.inr (.inr (.inr hr)))) k.2⟩
 | dE p v t r ih1 ih2=>
  rw [Go.Mq.Check.aQ,Option.or_eq_none_iff,Option.or_eq_none_iff] at k ⊢;exact⟨⟨nk v (fun p m n hr=>h p m n (.inl hr)) k.1.1,ih1 (fun p m n hr=>h p m n (.inr (.inl hr))) k.1.2⟩,ih2 (fun p m n hr=>h p m n (.inr (.inr hr))) k.2⟩
 | ret p v r ih=>
  rw [Go.Mq.Check.aQ,Option.or_eq_none_iff] at k ⊢;exact⟨nk v (fun p m n hr=>h p m n (.inl hr)) k.1,ih (fun p m n hr=>h p m n (.inr hr)) k.2⟩
 | dI p v r ih=>
  rw [Go.Mq.Check.aQ,Option.or_eq_none_iff] at k ⊢;exact⟨nk v (fun p m n hr=>h p m n (.inl hr)) k.1,ih (fun p m n hr=>h p m n (.inr hr)) k.2⟩
 | call p v r ih=>
  rw [Go.Mq.Check.aQ,Option.or_eq_none_iff] at k ⊢;exact⟨nk v (fun p m n hr=>h p m n (.inl hr)) k.1,ih (fun p m n hr=>h p m n (.inr hr)) k.2⟩
def Bu (seen:List UInt8→Option (List Sy)) (g n:List UInt8):Option Sy:=(jr ((seen g).getD []) n).map fun k=>((seen g).getD []).getD k Sy.none
theorem Ti {own:List UInt8} {seen seen':List UInt8→Option (List Sy)} : ∀ (l had:List (List UInt8)),(∀ n∈l,(seen' n).isSome)→fU own seen had l=none→fU own seen' had l=none
 | [],_,_,_=>rfl
 | x :: r,had,h,k=>by
  rw [fU] at k ⊢;split at k
  ·cases k
  ·next h1=>
   rw [if_neg h1];split at k
   ·cases k
   ·have:=h x (by simp)
    rw [if_neg (by rw [Option.isNone_iff_eq_none];intro e;rw [e] at this;cases this)];exact Ti r _ (fun n hn=>h n (by simp [hn])) k
theorem acG {m:Mod} {seen seen':List UInt8→Option (List Sy)} (hs : ∀ n∈m.imports,(seen' n).isSome) (hr : ∀ g∈m.imports,g≠[] → ∀ n,Em g n m → ∀ s,Bu seen g n=some s → ∃ s',Bu seen' g n=some s'∧uq s s') (h : check m seen = .fine) : check m seen' = .fine:=by
 rw [kU] at h ⊢;obtain⟨h1,h2,h3,h4⟩:=h;have hfind : ∀ (lo:List (List UInt8)) p g n,(g=[]∨Em g n m)→xO (Env.find ⟨m.imports,seen,lo,m.vars,m.procs⟩ p g n) (Env.find ⟨m.imports,seen',lo,m.vars,m.procs⟩ p g n):=fun lo p g n hg s hsm=>by
  by_cases hgn : g=[]
  ·subst hgn
   exact⟨s,hsm,.rfl s⟩
  ·have hg:=hg.resolve_left hgn
   unfold Env.find at hsm ⊢
   rw [if_pos hgn] at hsm ⊢;simp only at hsm ⊢;split at hsm
   ·cases hsm
   ·next hi=>
    rw [if_neg hi];have hi:=Classical.not_not.1 hi;cases hk : jr ((seen g).getD []) n with
    | none=>rw [hk] at hsm;cases hsm
    | some k=>
     rw [hk] at hsm;simp only at hsm;cases hsm
     obtain⟨s',h5,h6⟩:=hr g hi hgn n hg _ (by rw [Bu,hk];rfl)
     unfold Bu at h5
     cases hk' : jr ((seen' g).getD []) n with
     | none=>rw [hk'] at h5;cases h5
     | some k'=>
      rw [hk'] at h5;simp only [Option.map_some,Option.some.injEq] at h5;exact⟨s',by rw [← h5],h6⟩
 refine⟨Ti _ _ hs h1,h2,fun x hx=>?_,Hy (fun p n=>hfind _ p [] n (.inl rfl)) _ (fun p g n hr=>hfind _ p g n (.inr (.inr hr))) h4⟩;have:=h3 x hx;rw [lG,Option.or_eq_none_iff] at this ⊢;exact⟨this.1,Hy (fun p n=>hfind _ p [] n (.inl rfl)) _ (fun p g n hr=>hfind _ p g n (.inr (.inl ⟨x,hx,hr⟩))) this.2⟩
theorem Tj {a b r t:List UInt8} (ha : (10:UInt8)∉a) (hb : (10:UInt8)∉b) (h : a ++ 10 :: r=b ++ 10 :: t) : a=b∧r=t:=by
 induction a generalizing b with
 | nil=>
  cases b with
  | nil=>simpa using h
  | cons y b=>simp at h;exact absurd (by simp [← h.1]) hb
 | cons x a ih=>
  cases b with
  | nil=>simp at h;exact absurd (by simp [h.1]) ha
  | cons y b=>
   simp only [List.cons_append,List.cons.injEq] at h;obtain⟨h1,h2⟩:=ih (fun hm=>ha (List.mem_cons_of_mem _ hm)) (fun hm=>hb (List.mem_cons_of_mem _ hm)) h.2;exact⟨by rw [h.1,h1],h2⟩
def Line (t:List UInt8):Prop:=∃ u,t=u ++ [10]∧(10:UInt8)∉u
theorem Tk {α:Type} {f g : α→List UInt8} : ∀ {l:List α},(∀ x∈l,Line (f x)∧Line (g x))→l.flatMap f=l.flatMap g → ∀ x∈l,f x=g x
 | [],_,_=>by simp
 | x :: r,h,k=>by
  obtain⟨⟨u,hu,hu2⟩,v,hv,hv2⟩:=h x (by simp);rw [List.flatMap_cons,List.flatMap_cons,hu,hv] at k;simp only [List.append_assoc,List.singleton_append] at k;obtain⟨h1,h2⟩:=Tj hu2 hv2 k;intro y hy;rcases List.mem_cons.1 hy with rfl|hy
  ·rw [hu,hv,h1]
  ·exact Tk (fun x hx=>h x (by simp [hx])) h2 y hy
theorem Tm {l:List UInt8} (h : ∀ x∈l,wo x=true) : (10:UInt8)∉l:=fun hm=>by
 have:=h _ hm;simp [wo,letter,digit] at this
theorem acH {n:List UInt8} (h:Tree.Nm n) : (10:UInt8)∉n:=by
 obtain⟨⟨c,r,rfl,hc,hr⟩,_⟩:=h;refine Tm fun x hx=>?_
 rcases List.mem_cons.1 hx with rfl|hx
 ·simp [wo,hc]
 ·exact hr x hx
theorem Hz {n:Int} (h : 0≤n) : (10:UInt8)∉Lib.itoa n:=by
 obtain⟨c,r,e,hc,hr⟩:=O9 h;rw [e];refine Tm fun x hx=>?_
 rcases List.mem_cons.1 hx with rfl|hx
 ·simp [wo,hc]
 ·simp [wo,hr x hx]
theorem acI {a b:Int} (ha : 0≤a) (ha2 : a≤9223372036854775807) (hb : 0≤b) (hb2 : b≤9223372036854775807) (h:Lib.itoa a=Lib.itoa b) : a=b:=by
 have h1:=Pb ha ha2;have h2:=Pb hb hb2;rw [h,h2] at h1;cases h1;rfl
end Go.Mq.Run
namespace Go.Mq.Run
open Go Go.RowKit Go.Mq Go.Mq.Tree Go.Mq.Sym
open Go.Mq.Check (Env oH bA aQ lG dV ic dx check Out kU fU wO CR dX fI)
open Go.Mq.Used (fM GZ)
theorem acJ {s s':Sy} (hf : s.fit) (hf' : s'.fit) (hn : s.name=s'.name) (h : jq s=jq s'):uq s s':=by
 rw [jq,jq,← hn] at h;by_cases h1 : 0≤s.args <;> by_cases h2 : 0≤s'.args
 ·rw [if_pos h1,if_pos h2] at h
  simp only [List.append_assoc] at h;have h:=List.append_cancel_left (List.append_cancel_left (List.append_cancel_left h));have h3:=(Tj (Hz h1) (Hz h2) (r:=[]) (t:=[]) h).1;have:=acI h1 (by have:=hf.JO;omega) h2 (by have:=hf'.JO;omega) h3;exact⟨by omega,fun _=>this,fun hn=>absurd h1 hn⟩
 ·rw [if_pos h1,if_neg h2] at h
  split at h <;> (simp at h)
 ·rw [if_neg h1,if_pos h2] at h
  split at h <;> (simp at h)
 ·rw [if_neg h1,if_neg h2] at h
  by_cases h3 : 0 < s.len <;> by_cases h4 : 0 < s'.len
  ·exact⟨by omega,fun e=>absurd e h1,fun _=>by omega⟩
  ·rw [if_pos h3,if_neg h4] at h;simp at h
  ·rw [if_neg h3,if_pos h4] at h;simp at h
  ·exact⟨by omega,fun e=>absurd e h1,fun _=>by omega⟩
theorem acK {s:Sy} (h : (10:UInt8)∉s.name):Line (jq s):=by
 rw [jq];split
 ·next h1=>exact⟨[112,114,111,99,32] ++ s.name ++ [32] ++ Lib.itoa s.args,rfl,by have:=Hz h1;simp [h,this]⟩
 ·split
  ·next h1=>exact⟨[97,114,114,97,121,32] ++ s.name ++ [32] ++ Lib.itoa s.len,rfl,by have:=Hz (n:=s.len) (by omega);simp [h,this]⟩
  ·exact⟨[105,110,116,32] ++ s.name,rfl,by simp [h]⟩
theorem Tn {l:List Sy} {n:List UInt8} (h : (10:UInt8)∉n):Line (kS l n):=by
 rw [kS];cases hk : jr l n with
 | none=>exact⟨[110,111,110,101,32] ++ n,rfl,by simp [h]⟩
 | some k=>exact acK (by rw [(Hu hk).2];exact h)
theorem acL {s:Sy} {n:List UInt8} : jq s≠[110,111,110,101,32] ++ n ++ [10]:=by
 rw [jq];split
 ·simp
 ·split <;> simp
theorem acM {l l':List Sy} (hl : ∀ s∈l,s.fit) (hl' : ∀ s∈l',s.fit) {n:List UInt8} (h : kS l n=kS l' n) {k:Nat} (hk : jr l n=some k) : ∃ k',jr l' n=some k'∧uq (l.getD k Sy.none) (l'.getD k' Sy.none):=by
 rw [kS,kS,hk] at h;simp only at h;cases hk' : jr l' n with
 | none=>rw [hk'] at h;exact absurd h acL
 | some k'=>
  rw [hk'] at h;obtain⟨h1,h2⟩:=Hu hk;obtain⟨h3,h4⟩:=Hu hk';exact⟨k',rfl,acJ (hl _ h1) (hl' _ h3) (by rw [h2,h4]) h⟩
theorem L6 {m:Mod} (h:kL m) : ∀ s∈ofM m,s.fit:=YV h.wf.vars h.wf.procs
theorem o5 {g n:List UInt8} : ∀ {e:E},WF e→iO g n e→Tree.Nm n
 | .num _ _,_,h=>h.elim
 | .var _ _ _,hw,h=>h.2 ▸ hw.2
 | .item _ _ _ i,hw,h=>by
  rcases h with h|h
  ·exact h.2 ▸ hw.2.1
  ·exact o5 hw.2.2.1 h
 | .un _ _ x,hw,h=>o5 (e:=x) hw.2.1 h
 | .bin _ _ x y,hw,h=>by
  rcases h with h|h
  ·exact o5 hw.2.1.1 h
  ·exact o5 hw.2.2.1 h
 | .app _ _ _ l,hw,h=>by
  rcases h with h|h
  ·exact h.2 ▸ hw.2.1
  ·exact o5 hw.2.2.1 h
 | .nil,_,h=>h.elim
 | .cons x r,hw,h=>by
  rcases h with h|h
  ·exact o5 hw.1.1 h
  ·exact o5 hw.2.1 h
theorem Tp {g n:List UInt8} {s:S} : ∀ {d:Nat},gI d s→jO g n s→Tree.Nm n:=by
 induction s with
 | nil=>intro d hw h;exact h.elim
 | set p m i v r ih=>
  intro d hw h;rcases h with⟨x,hx,h⟩|h|h
  ·exact o5 (hw.2.1 x hx).1.1 h
  ·exact o5 hw.2.2.1.1.1 h
  ·exact ih hw.2.2.2 h
 | ifs p v t e r ih1 ih2 ih3=>
  intro d hw h;rcases h with h|h|h|h
  ·exact o5 hw.1.1.1 h
  ·exact ih1 hw.2.1.1.2 h
  ·exact ih2 hw.2.1.2.2 h
  ·exact ih3 hw.2.2 h
 | dE p v t r ih1 ih2=>
  intro d hw h;rcases h with h|h|h
  ·exact o5 hw.1.1.1 h
  ·exact ih1 hw.2.1.2 h
  ·exact ih2 hw.2.2 h
 | ret p v r ih=>intro d hw h;rcases h with h|h;exact o5 hw.1.1.1 h;exact ih hw.2 h
 | dI p v r ih=>intro d hw h;rcases h with h|h;exact o5 hw.1.1.1 h;exact ih hw.2 h
 | call p v r ih=>intro d hw h;rcases h with h|h;exact o5 hw.1.1.1.1 h;exact ih hw.2 h
theorem acN {g n:List UInt8} {m:Mod} (hw:CE m) (h:Em g n m):Tree.Nm n:=by
 rcases h with⟨x,hx,h⟩|h
 ·exact Tp (hw.procs x hx).body h
 ·exact Tp hw.body h
theorem acO {mq old m:Mod} {seen seen':List UInt8→Option (List Sy)} (hq:kL mq) (ho:kL old) (hm:kL m) (h1 : seen m.name=some (ofM old)) (h2 : seen' m.name=some (ofM m)) (h3 : ∀ g,g≠m.name→seen' g=seen g)
  (hn : iB (ofM old) (fM m.name mq)=iB (ofM m) (fM m.name mq)) (h : check mq seen = .fine) : check mq seen' = .fine:=by
 have hc:=(kU _ _).1 h;refine acG (fun g hg=>?_) (fun g hg hgn n hr s hs=>?_) h
 ·by_cases e : g=m.name
  ·rw [e,h2];rfl
  ·rw [h3 g e];exact wO _ _ hc.1 g hg
 ·by_cases e : g=m.name
  ·subst e
   unfold Bu at hs ⊢
   rw [h1] at hs;rw [h2];simp only [Option.getD_some] at hs ⊢;cases hk : jr (ofM old) n with
   | none=>rw [hk] at hs;cases hs
   | some k=>
    rw [hk] at hs;cases hs
    have acP : ∀ n∈fM m.name mq,kS (ofM old) n=kS (ofM m) n:=Tk (fun x hx=>by
     have hx:=acH (acN hq.wf ((Tg hgn x mq).1 hx));exact⟨Tn hx,Tn hx⟩) hn
    obtain⟨k',hk',he⟩:=acM (L6 ho) (L6 hm) (acP n ((Tg hgn n mq).2 hr)) hk;exact⟨_,by rw [hk'];rfl,he⟩
  ·rw [Bu,h3 g e]
   exact⟨s,hs,.rfl s⟩
theorem L8 {m:Mod} {seen seen':List UInt8→Option (List Sy)} (h : ∀ g∈m.imports,seen' g=seen g) : check m seen'=check m seen:=by
 have hb : ∀ lo s,aQ ⟨m.imports,seen',lo,m.vars,m.procs⟩ s=aQ ⟨m.imports,seen,lo,m.vars,m.procs⟩ s:=fun lo s=>Go.Mq.Check.Yg (Go.Mq.Check.Yi h) s
 have hp : ∀ l,Go.Mq.Check.dV m seen' l=Go.Mq.Check.dV m seen l:=fun l=>by
  induction l with
  | nil=>rfl
  | cons x r ih=>rw [Go.Mq.Check.dV,Go.Mq.Check.dV,ih,lG,lG,hb]
 unfold check
 rw [CR _ _ h,hp,hb]
theorem Tq {own:List UInt8} {seen:List UInt8→Option (List Sy)} : ∀ (l had:List (List UInt8)),fU own seen had l=none→own∉l
 | [],_,_=>by simp
 | x :: r,had,h=>by
  rw [fU] at h;split at h
  ·cases h
  ·next h1=>
   split at h
   ·cases h
   ·intro hm
    rcases List.mem_cons.1 hm with e|hm
    ·exact h1 (.inl e.symm)
    ·exact Tq r _ h hm
def kg (M:Ms) (a b:Nm):Prop:=∃ m,M b=some m∧a∈m.imports
inductive Reach (M:Ms):Nm→Nm→Prop where
 | refl (a:Nm):Reach M a a
 | step {a b c:Nm} : kg M b a→Reach M b c→Reach M a c
structure Inv (W:Wd):Prop where
 ok:zL W.M
 shape : ∀ q n,(W.vs q n).map List.length=((W.M q).bind fun m=>jf m.vars n).map List.length
 nodup:W.order.Nodup
 order : ∀ q,q∈W.order↔(W.M q).isSome
 few:W.order.length≤10
 zO : ∀ q,Acc (kg W.M) q
theorem Inv.zero:Inv Wd.zero:=⟨⟨fun _ _ h=>(by cases h),fun _ _ h=>(by cases h)⟩,fun _ _=>rfl,List.nodup_nil,fun _=>by simp [Wd.zero],by simp [Wd.zero],fun q=>⟨_,fun a ⟨_,h,_⟩=>by cases h⟩⟩
theorem Tt {α:Type} {P:List α→Prop} (h0:P []) (h1 : ∀ l x,P l→P (l ++ [x])) (l:List α):P l:=by
 have : ∀ l:List α,P l.reverse:=fun l=>by
  induction l with
  | nil=>exact h0
  | cons x r ih=>rw [List.reverse_cons];exact h1 _ _ ih
 have:=this l.reverse
 rwa [List.reverse_reverse] at this
theorem Ia {l:List bJ} : ∀ {n:Nm},(∃ g∈l,g.name=n)↔(jf l n).isSome:=by
 refine Tt (P:=fun l=>∀ {n:Nm},(∃ g∈l,g.name=n)↔(jf l n).isSome) ?_ ?_ l
 ·intro n;simp [jf]
 ·intro l g ih n
  rw [Lc];simp only [List.mem_append,List.mem_singleton];split
  ·next h=>exact⟨fun _=>rfl,fun _=>⟨g,.inr rfl,h⟩⟩
  ·next h=>
   rw [← ih]
   constructor
   ·rintro⟨x,hx|rfl,he⟩
    ·exact⟨x,hx,he⟩
    ·exact absurd he h
   ·rintro⟨x,hx,he⟩;exact⟨x,.inl hx,he⟩
theorem Bv {l:List bJ} : ∀ (_ : (l.map (·.name)).Nodup) {g:bJ} (_ : g∈l),jf l g.name=some (zeros (jC g)):=by
 refine Tt (P:=fun l=>∀ (_ : (l.map (·.name)).Nodup) {g:bJ} (_ : g∈l),jf l g.name=some (zeros (jC g))) ?_ ?_ l
 ·intro _ g hg;cases hg
 ·intro l x ih h g hg
  rw [Lc];rw [List.map_append,List.nodup_append] at h;rcases List.mem_append.1 hg with hg|hg
  ·have : x.name≠g.name:=fun e=>h.2.2 g.name (List.mem_map_of_mem hg) x.name (by simp) e.symm
   simp only [if_neg this];exact ih h.1 hg
  ·simp at hg;subst hg;simp
theorem Ib {M:Ms} (hM:zL M) {q:Nm} {m:Mod} (hq:M q=some m) : (m.vars.map (·.name)).Nodup:=(List.nodup_append.1 ((kU _ _).1 (hM.fine q m hq)).2.1).1
theorem Inv.shaped {W:Wd} (h:Inv W):Shape W.M W.vs:=fun q m hq g hg=>by
 have:=h.shape q g.name;rw [hq] at this;simp only [Option.bind_some,Bv (Ib h.ok hq) hg,Option.map_some] at this;cases hv:W.vs q g.name with
 | none=>rw [hv] at this;cases this
 | some l=>rw [hv] at this;simp [zeros] at this;exact⟨l,rfl,this⟩
end Go.Mq.Run
namespace Go.Mq.Run
open Go Go.RowKit Go.Mq Go.Mq.Tree Go.Mq.Sym
open Go.Mq.Check (Env oH bA aQ lG dV ic dx check Out kU fU wO CR dX fI)
open Go.Mq.Used (fM GZ)
open Classical
def xP (old m:Mod) (n:Nm):Bool:=m.vars.any fun g=>g.name == n && old.vars.any fun h=>h.name == n && h.len == g.len
def jD (vs:Vs) (old m:Mod):Vs:=fun q n=>if q=m.name then (if xP old m n then vs q n else jf m.vars n) else vs q n
noncomputable def fE (W:Wd) (m:Mod):Wd × Out:=match W.M m.name with
 | none=>(W,.plain 7)
 | some old=>match check m (dP W.M) with
  | .fine=>
   if ∃ n∈m.imports,Reach W.M n m.name then (W,.plain 11)
   else if ∃ n∈W.order,∃ mn,W.M n=some mn∧iB (ofM old) (fM m.name mn)≠iB (ofM m) (fM m.name mn) then (W,.plain 6)
   else (⟨bT W.M m,jD W.vs old m,W.order⟩,.fine)
  | o=>(W,o)
def mF (g:Nat) (W:Wd) (q n:Nm) (args:List Int) (fuel:Nat):Option (Wd × Nat × List Int × Int × Out):=match W.M q with
 | none=>some (W,0,[],0,.plain 7)
 | some m=>match m.procs.find? fun p=>p.name == n && p.seen with
  | none=>some (W,0,[],0,.plain 7)
  | some p=>if args.length≠p.params.length then some (W,0,[],0,.plain 2) else
   match (fns W.M g).c 0 q p args ⟨fuel,[],W.vs⟩ with
   | .stuck=>none
   | .ok n s=>some (⟨W.M,s.vs,W.order⟩,1,s.out,n,.fine)
   | .stop way s=>some (⟨W.M,s.vs,W.order⟩,way,s.out,0,.fine)
theorem o6 (M:Ms) (m:Mod) : bT M m m.name=some m:=if_pos rfl
theorem qp (M:Ms) (m:Mod) {q:Nm} (h : q≠m.name) : bT M m q=M q:=if_neg h
theorem Bw (M:Ms) (m:Mod) (q:Nm) : dP (bT M m) q=if q=m.name then some (ofM m) else dP M q:=by
 unfold dP bT
 split <;> rfl
theorem acQ {M:Ms} {vs vs':Vs} (h : ∀ q n,(vs q n).map List.length=((M q).bind fun m=>jf m.vars n).map List.length) (k : ∀ q n,(vs' q n).map List.length=(vs q n).map List.length) : ∀ q n,(vs' q n).map List.length=((M q).bind fun m=>jf m.vars n).map List.length:=fun q n=>(k q n).trans (h q n)
theorem Inv.vals {W:Wd} (h:Inv W) {vs:Vs} (k : ∀ q n,(vs q n).map List.length=(W.vs q n).map List.length):Inv ⟨W.M,vs,W.order⟩:=⟨h.ok,acQ h.shape k,h.nodup,h.order,h.few,h.zO⟩
theorem Tu {m:Mod} {seen:Nm→Option (List Sy)} (h : check m seen = .fine) : m.name∉m.imports:=Tq _ _ ((kU _ _).1 h).1
theorem zL.more {M:Ms} (h:zL M) {m:Mod} (hg:kL m) (hn:M m.name=none) (hc : check m (dP M) = .fine):zL (bT M m):=by
 refine⟨fun q x hx=>?_,fun q x hx=>?_⟩
 ·by_cases e : q=m.name
  ·subst e;rw [o6] at hx;cases hx;exact⟨hg,rfl⟩
  ·rw [qp _ _ e] at hx;exact h.good q x hx
 ·by_cases e : q=m.name
  ·subst e
   rw [o6] at hx;cases hx
   rw [L8 (seen:=dP M)]
   ·exact hc
   ·intro g hg'
    rw [Bw,if_neg];intro e;subst e;exact Tu hc hg'
  ·rw [qp _ _ e] at hx
   have hf:=h.fine q x hx;rw [L8 (seen:=dP M)]
   ·exact hf
   ·intro g hg'
    rw [Bw,if_neg];intro e';subst e';have:=wO _ _ ((kU _ _).1 hf).1 _ hg';rw [dP,hn] at this;cases this
theorem Inv.loaded {W:Wd} (h:Inv W) {m:Mod} (hg:kL m) (hn:W.M m.name=none) (hc : check m (dP W.M) = .fine) (hl:W.order.length≠10):Inv ⟨bT W.M m,lN W.vs m,W.order ++ [m.name]⟩:=by
 have hno : m.name∉W.order:=fun hm=>by have:=(h.order m.name).1 hm;rw [hn] at this;cases this
 have himp : ∀ a b,b≠m.name→(kg (bT W.M m) a b↔kg W.M a b):=fun a b hb=>by unfold kg;rw [qp _ _ hb]
 have hold : ∀ b,Acc (kg W.M) b→(W.M b).isSome→Acc (kg (bT W.M m)) b:=fun b hb=>by
  induction hb with
  | intro b _ ih=>
   intro hs;have hbn : b≠m.name:=fun e=>by subst e;rw [hn] at hs;cases hs
   refine⟨_,fun a ha=>ih a ((himp a b hbn).1 ha) ?_⟩;obtain⟨mb,hmb,hab⟩:=(himp a b hbn).1 ha;have:=wO _ _ ((kU _ _).1 (h.ok.fine b mb hmb)).1 a hab
   unfold dP at this
   cases hM:W.M a with
   | none=>rw [hM] at this;cases this
   | some _=>rfl
 refine⟨h.ok.more hg hn hc,fun q n=>?_,?_,fun q=>?_,by simp;have:=h.few;omega,fun q=>?_⟩
 ·simp only [lN]
  by_cases e : q=m.name
  ·subst e;rw [if_pos rfl,o6];rfl
  ·rw [if_neg e,qp _ _ e];exact h.shape q n
 ·refine List.nodup_append.2 ⟨h.nodup,by simp,fun a ha b hb=>?_⟩
  simp at hb
  subst hb;intro e;subst e;exact hno ha
 ·simp only [List.mem_append,List.mem_singleton]
  by_cases e : q=m.name
  ·subst e;simp [o6]
  ·rw [qp _ _ e,← h.order q];simp [e]
 ·by_cases hs : (W.M q).isSome
  ·exact hold q (h.zO q) hs
  ·by_cases e : q=m.name
   ·subst e
    refine⟨_,fun a ⟨x,hx,ha⟩=>?_⟩
    change bT W.M m m.name=some x at hx
    rw [o6] at hx;cases hx
    refine hold a (h.zO a) ?_;have:=wO _ _ ((kU _ _).1 hc).1 a ha
    unfold dP at this
    cases hM:W.M a with
    | none=>rw [hM] at this;cases this
    | some _=>rfl
   ·refine⟨_,fun a ⟨x,hx,ha⟩=>?_⟩
    change bT W.M m q=some x at hx
    rw [qp _ _ e] at hx;rw [hx] at hs;exact absurd rfl hs
theorem acR {W:Wd} (h:Inv W) {m:Mod} (hg:kL m) (fuel:Nat) : ∃ g r,mi g W m fuel=some r∧Inv r.1:=by
 unfold mi
 by_cases hs : (W.M m.name).isSome
 ·exact⟨0,_,by rw [if_pos hs],h⟩
 ·have hn:W.M m.name=none:=by cases hM:W.M m.name with|none=>rfl|some _=>rw [hM] at hs;exact absurd rfl hs
  cases hc : check m (dP W.M) with
  | plain e=>exact⟨0,_,by rw [if_neg hs],h⟩
  | at_ e p=>exact⟨0,_,by rw [if_neg hs],h⟩
  | fine=>
   by_cases hl:W.order.length=10
   ·exact⟨0,_,by rw [if_neg hs];simp only;rw [if_pos hl],h⟩
   ·have hI:=h.loaded hg hn hc hl
    have hfe:=(kU _ _).1 (hI.ok.fine m.name m (o6 _ _));obtain⟨g,hfin⟩:=(safe hI.ok fuel 30).b 0 m.name m [] [] m.body ⟨fuel,[],lN W.vs m⟩ 10 (o6 _ _) (by omega) (by omega) (Nat.le_refl _) (fun n=>by simp [eH]) hI.shaped hg.wf.body hfe.2.2.2;have hal:=(along zn (bT W.M m) g).b 0 m.name [] m.body ⟨fuel,[],lN W.vs m⟩;cases ho : (fns (bT W.M m) g).b 0 m.name [] m.body ⟨fuel,[],lN W.vs m⟩ with
    | stuck=>exact absurd ho hfin
    | ok x s=>
     rw [ho] at hal;exact⟨g,_,by rw [if_neg hs];simp only;rw [if_neg hl,ho],hI.vals hal⟩
    | stop way s=>
     rw [ho] at hal;exact⟨g,_,by rw [if_neg hs];simp only;rw [if_neg hl,ho],hI.vals hal⟩
theorem acS {W:Wd} (h:Inv W) (q n:Nm) (args:List Int) (fuel:Nat) : ∃ g r,mF g W q n args fuel=some r∧Inv r.1:=by
 unfold mF
 cases hq:W.M q with
 | none=>exact⟨0,_,rfl,h⟩
 | some m=>
  simp only;cases hp : m.procs.find? fun p=>p.name == n && p.seen with
  | none=>exact⟨0,_,rfl,h⟩
  | some p=>
   simp only;by_cases ha : args.length≠p.params.length
   ·exact⟨0,_,by rw [if_pos ha],h⟩
   ·obtain⟨g,hfin⟩:=SQ h.ok (N:=fuel) (k:=30) (fun k' _=>safe h.ok fuel k') 0 q m p args ⟨fuel,[],W.vs⟩ hq (List.mem_of_find?_eq_some hp) (by omega) (by omega) (by omega) (Nat.le_refl _) h.shaped
    have hal:=(along zn W.M g).c 0 q p args ⟨fuel,[],W.vs⟩;cases ho : (fns W.M g).c 0 q p args ⟨fuel,[],W.vs⟩ with
    | stuck=>exact absurd ho hfin
    | ok x s=>
     rw [ho] at hal;exact⟨g,_,by rw [if_neg ha,ho],h.vals hal⟩
    | stop way s=>
     rw [ho] at hal;exact⟨g,_,by rw [if_neg ha,ho],h.vals hal⟩
theorem Inv.swapped {W:Wd} (h:Inv W) {m old:Mod} (hg:kL m) (ho:W.M m.name=some old) (hc : check m (dP W.M) = .fine) (hr : ¬ ∃ n∈m.imports,Reach W.M n m.name)
  (hs : ¬ ∃ n∈W.order,∃ mn,W.M n=some mn∧iB (ofM old) (fM m.name mn)≠iB (ofM m) (fM m.name mn)):Inv ⟨bT W.M m,jD W.vs old m,W.order⟩:=by
 have hgo:=h.ok.good _ _ ho;refine⟨⟨fun q x hx=>?_,fun q x hx=>?_⟩,fun q n=>?_,h.nodup,fun q=>?_,h.few,?_⟩
 ·by_cases e : q=m.name
  ·subst e;simp only [o6] at hx;cases hx;exact⟨hg,rfl⟩
  ·simp only [qp _ _ e] at hx;exact h.ok.good q x hx
 ·by_cases e : q=m.name
  ·subst e
   simp only [o6] at hx;cases hx
   rw [L8 (seen:=dP W.M)]
   ·exact hc
   ·intro g hg'
    rw [Bw,if_neg];intro e;subst e;exact Tu hc hg'
  ·simp only [qp _ _ e] at hx
   refine acO (old:=old) (m:=m) (h.ok.good q x hx).1 hgo.1 hg (by rw [dP,ho];rfl) (by rw [Bw,if_pos rfl]) (fun g he=>by rw [Bw,if_neg he]) ?_ (h.ok.fine q x hx);by_cases hne : iB (ofM old) (fM m.name x)=iB (ofM m) (fM m.name x)
   ·exact hne
   ·exact absurd ⟨q,(h.order q).2 (by rw [hx];rfl),x,hx,hne⟩ hs
 ·simp only [jD]
  by_cases e : q=m.name
  ·subst e
   rw [if_pos rfl,o6];have hsh:=h.shape m.name n;rw [ho] at hsh;simp only [Option.bind_some] at hsh ⊢;have hnd : (m.vars.map (·.name)).Nodup:=(List.nodup_append.1 ((kU _ _).1 hc).2.1).1;by_cases hk : xP old m n=true
   ·rw [if_pos hk,hsh]
    simp only [xP,List.any_eq_true,Bool.and_eq_true,beq_iff_eq] at hk;obtain⟨g,hgm,hgn,o,hom,hon,hlen⟩:=hk;rw [← hgn,Bv hnd hgm,hgn,← hon,Bv (Ib h.ok ho) hom];simp [zeros,jC,hlen]
   ·rw [if_neg hk]
  ·rw [if_neg e,qp _ _ e];exact h.shape q n
 ·show q∈W.order↔(bT W.M m q).isSome=true
  by_cases e : q=m.name
  ·subst e;rw [o6];have:=(h.order m.name).2 (by rw [ho];rfl);simp [this]
  ·rw [qp _ _ e];exact h.order q
 ·
  have himp : ∀ a b,b≠m.name→(kg (bT W.M m) a b↔kg W.M a b):=fun a b hb=>by unfold kg;rw [qp _ _ hb]
  have acU : ∀ b,Acc (kg W.M) b→¬ Reach W.M b m.name→Acc (kg (bT W.M m)) b:=fun b hb=>by
   induction hb with
   | intro b _ ih=>
    intro hnr;have hbn : b≠m.name:=fun e=>by subst e;exact hnr (.refl _)
    exact⟨_,fun a ha=>ih a ((himp a b hbn).1 ha) fun hra=>hnr (.step ((himp a b hbn).1 ha) hra)⟩
  have hself:Acc (kg (bT W.M m)) m.name:=⟨_,fun a ⟨x,hx,ha⟩=>by
   rw [o6] at hx;cases hx
   exact acU a (h.zO a) fun hra=>hr ⟨a,ha,hra⟩⟩
  intro q;have : ∀ b,Acc (kg W.M) b→Acc (kg (bT W.M m)) b:=fun b hb=>by
   induction hb with
   | intro b _ ih=>
    by_cases e : b=m.name
    ·subst e;exact hself
    ·exact⟨_,fun a ha=>ih a ((himp a b e).1 ha)⟩
  exact this q (h.zO q)
theorem L9 {W:Wd} (h:Inv W) {m:Mod} (hg:kL m):Inv (fE W m).1:=by
 unfold fE
 cases ho:W.M m.name with
 | none=>exact h
 | some old=>
  simp only;cases hc : check m (dP W.M) with
  | plain e=>exact h
  | at_ e p=>exact h
  | fine=>
   simp only;split
   ·exact h
   ·next hr=>
    split
    ·exact h
    ·next hs=>exact h.swapped hg ho hc hr hs
end Go.Mq.Run
namespace Go.Mq.Run
open Go Go.RowKit Go.Mq Go.Mq.Tree Go.Mq.Sym
open Go.Mq.fo (aZ getM dB jm jV mQ jo)
theorem dZ.still {w w':World} {Own G:Nat→Prop} {bw:Nat} {W:Wd} (h:dZ w Own G bw W) (hc:ae [] w w'):dZ w' (More Own w w') G bw W:=by
 have:=h.idle (Gm:=fun _=>False) hc (fun _ h=>h.elim)
 simpa using this
end Go.Mq.Run
namespace Go.Proofs.YtechofppmnnomaaGreatDoor
open Go Go.RowKit Go.Mq Go.Mq.Tree Go.Mq.Sym Go.Mq.Run
open Go.Mq.Check (fI cu bK dx check Out ik)
open Go.Mq.fo (aZ getM dB jm jV mQ jo)
set_option maxRecDepth 100000
set_option maxHeartbeats 4000000
def qw (w:World) (Own G:Nat→Prop) (bw:Nat) (r:Wd × Nat × List Int × Int × Out) (e:Ending) (w':World):Prop:=
 ∃ ve vo,e = .returned (.tuple #[ve,num r.2.2.2.1,vo])∧DL w' w.heap.size r.2.1 r.2.2.1 ve∧ql w' r.2.2.2.2 vo∧dZ w' (More Own w w') G bw r.1∧vF Own w w'
theorem qw.no {w w':World} {Own G:Nat→Prop} {bw:Nat} {W:Wd} {o:Out} {vo:Value} (h:dZ w Own G bw W) (hc:ae [] w w') (he:ql w' o vo):qw w Own G bw (W,0,[],0,o) (.returned (.tuple #[.agg #[num 0,ah],num 0,vo])) w':=
 ⟨_,_,rfl,⟨ah,rfl,⟨rfl,.inl ⟨rfl,rfl⟩⟩,From.nil _⟩,he,h.still hc,.of hc⟩
theorem qw.done {w wD w9 wF:World} {Own G:Nat→Prop} {bw be bi way:Nat} {W:Wd} {L:Lay} {X:List Nat} {vs:Vs} {out:List Int} {n:Int} {ov:Value} (H:dZ w Own G bw W) (HH:Has w Own G bw W L) (hD:ae [] w wD) (h9:Home w9 L vs) (bN:ae (X ++ L.ay) wD w9) (hX : ∀ x∈X,x=bi) (hlt : w.heap.size≤be∧w.heap.size≤bi∧be < wD.heap.size∧bi < wD.heap.size)
  (ho : w9.ownsRow 0 bO 1 ov out.length (ints out)) (hf:From wD.heap.size ov) (aV:ae [be,bi] w9 wF):qw w Own G bw (⟨W.M,vs,W.order⟩,way,out,n,.fine) (.returned (.tuple #[.agg #[num way,ov],num n,.nilIface])) wF:=by
 have hlow:=fun x (hx : w.heap.size≤x)=>HH.home.low hx
 have hs:=hD.size;have DW:=bN.size;have Jq:=aV.size;have hbb : ∀ x∈[be,bi],w.heap.size≤x:=fun x hx=>by simp at hx;rcases hx with rfl|rfl <;> omega
 have jg:=HH.home.lay w.heap.size (Nat.le_refl _);have hZ : ∀ x∈X ++ L.ay,¬ L.Fix x:=fun x hx=>by
  rcases List.mem_append.1 hx with hx|hx
  ·rw [hX x hx];exact(hlow bi hlt.2.1).1
  ·exact(jg.ay hx).1
 have h10:=(((HH.kept hD (by simp)).went h9 bN hZ).Bh aV (fun x hx=>hlow x (hbb x hx))).mono (Own':=More Own w wF) (fun x hx=>.inl hx);refine⟨_,_,rfl,⟨ov,rfl,cK ho aV (fun g hg hm=>?_),fun g hg=>?_⟩,rfl,⟨.inl H.own,fun x hx=>?_,fun x hx hx'=>?_,H.good,H.few,.inr ⟨L,h10⟩⟩,L.ay,?_,HH.ay⟩
 ·have:=hf g hg;simp at hm;omega
 ·have:=hf g hg;omega
 ·rcases hx with(hx|hx)|hx
  ·have:=H.lt x (.inl hx);omega
  ·exact hx.2
  ·have:=H.lt x (.inr hx);omega
 ·rcases hx with hx|hx
  ·exact H.zG x hx hx'
  ·have:=H.lt x (.inr hx');omega
 ·refine((hD.weak (S:=L.ay)).trans bN (fun x hx=>?_)).trans aV (fun x hx=>.inr (hbb x hx))
  rcases List.mem_append.1 hx with hx|hx
  ·exact .inr (by rw [hX x hx];exact hlt.2.1)
  ·exact .inl hx
theorem Bz {w:World} {be bi:Nat} {u0 u1 u2:Value} (h:ag w be #[u0,u1] 43) (hi:ag w bi #[u2] bO) (n k:Int) (v:Value) : ∃ wE,(((w.setCell ⟨be,0,none⟩ (num n)).setCell ⟨be,1,none⟩ v).setCell ⟨bi,0,none⟩ (num k))=wE∧ag wE be #[num n,v] 43∧ag wE bi #[num k] bO:=by
 have hne : be≠bi:=fun e=>by subst e;unfold ag at h hi;rw [h] at hi;simp at hi
 refine⟨_,rfl,((by simpa using (h.set 0 (num n)).set 1 v:ag ((w.setCell ⟨be,0,none⟩ (num n)).setCell ⟨be,1,none⟩ v) be #[num n,v] _)).kept (ae.set1 _ bi _ _) (by simpa using hne),?_⟩;have h2:ag ((w.setCell ⟨be,0,none⟩ (num n)).setCell ⟨be,1,none⟩ v) bi #[u2] bO:=(hi.kept (ae.set1 _ be _ _) (by simpa using hne.symm)).kept (ae.set1 _ be _ _) (by simpa using hne.symm)
 simpa using h2.set 0 (num k)
theorem acV (g:Nat) {w:World} {Own G:Nat→Prop} {bw:Nat} {W:Wd} {q n:Nm} {args:List Int} {a:Option Addr} {c:Nat} {fuel:Nat} {r:Wd × Nat × List Int × Int × Out} (h:dZ w Own G bw W) (hq:W.M q=none) (hr : mF g W q n args fuel=some r) :
  Calls Tryz.prog 31 #[ptr bw,str q,str n,.slice a args.length c,num fuel] w (qw w Own G bw r):=by
 obtain⟨pv,oa,oc,hfr⟩:=h.front;obtain⟨o,hlk⟩:=G9 hfr q;rw [hq] at hlk;obtain⟨w0,hw0⟩ : ∃ x,w.alloc (.cells #[str n] 9)=x:=⟨_,rfl⟩
 have hb0:ag w0 w.heap.size #[str n] 9:=by rw [← hw0];exact ag.new w _ _
 have hc0:ae [] w w0:=by rw [← hw0];exact(ae.refl _ _).alloc _
 have hs0 : w0.heap.size=w.heap.size + 1:=by rw [← hw0];simp
 obtain⟨w1,hw1⟩ : ∃ x,w0.alloc (.cells #[.slice a args.length c] 41)=x:=⟨_,rfl⟩
 have hb1:ag w1 w0.heap.size #[.slice a args.length c] 41:=by rw [← hw1];exact ag.new w0 _ _
 have hc1:ae [] w0 w1:=by rw [← hw1];exact(ae.refl _ _).alloc _
 have hs1 : w1.heap.size=w0.heap.size + 1:=by rw [← hw1];simp
 obtain⟨w2,hw2⟩ : ∃ x,w1.alloc (.cells #[num 0,ah] 43)=x:=⟨_,rfl⟩
 have hb2:ag w2 w1.heap.size #[num 0,ah] 43:=by rw [← hw2];exact ag.new w1 _ _
 have hc2:ae [] w1 w2:=by rw [← hw2];exact(ae.refl _ _).alloc _
 have hs2 : w2.heap.size=w1.heap.size + 1:=by rw [← hw2];simp
 obtain⟨w3,hw3⟩ : ∃ x,w2.alloc (.cells #[num 0] bO)=x:=⟨_,rfl⟩
 have hb3:ag w3 w2.heap.size #[num 0] bO:=by rw [← hw3];exact ag.new w2 _ _
 have hc3:ae [] w2 w3:=by rw [← hw3];exact(ae.refl _ _).alloc _
 have hs3 : w3.heap.size=w2.heap.size + 1:=by rw [← hw3];simp
 obtain⟨w4,hw4⟩ : ∃ x,w3.alloc (.cells #[.pointer o] 94)=x:=⟨_,rfl⟩
 have hb4:ag w4 w3.heap.size #[.pointer o] 94:=by rw [← hw4];exact ag.new w3 _ _
 have hc4:ae [] w3 w4:=by rw [← hw4];exact(ae.refl _ _).alloc _
 have hs4 : w4.heap.size=w3.heap.size + 1:=by rw [← hw4];simp
 obtain⟨bn,hbn⟩ : ∃ b,b=w.heap.size:=⟨_,rfl⟩
 obtain⟨ba,jL⟩ : ∃ b,b=w0.heap.size:=⟨_,rfl⟩
 obtain⟨be,hbe⟩ : ∃ b,b=w1.heap.size:=⟨_,rfl⟩
 obtain⟨bi,hbi⟩ : ∃ b,b=w2.heap.size:=⟨_,rfl⟩
 obtain⟨bt,hbt⟩ : ∃ b,b=w3.heap.size:=⟨_,rfl⟩
 have hcw:ae [] w w3:=hc0.then (hc1.then (hc2.then hc3))
 have qL:ae [] w w4:=hcw.then hc4
 have jJ:=(((hb0.kept hc1 (by simp)).kept hc2 (by simp)).kept hc3 (by simp)).kept hc4 (by simp);have zP:=((hb1.kept hc2 (by simp)).kept hc3 (by simp)).kept hc4 (by simp);have qX:=(hb2.kept hc3 (by simp)).kept hc4 (by simp);have hi3:=hb3.kept hc4 (by simp);have hne : w2.heap.size≠w1.heap.size:=by omega
 have hne' : w1.heap.size≠w2.heap.size:=by omega
 have hwb:=hfr.blk.kept hcw (by simp);rw [← hbn] at jJ;rw [← jL] at zP;rw [← hbe] at qX;rw [← hbi] at hi3;rw [← hbt] at hb4;have b0:=hwb.cell 0 _ rfl;have b1:=hwb.cell 1 _ rfl;have Tv:=hlk w3 hcw;have dW:=zh (show bn=w.heap.size∧ba=w.heap.size + 1∧be=w.heap.size + 2∧bi=w.heap.size + 3∧bt=w.heap.size + 4∧w4.heap.size=w.heap.size + 5∧bw < w.heap.size by
  have:=h.lt bw (.inl h.own);omega)
 have fJ:=zh (fun(wx:World) (hx:ae [] w wx)=>(show ae [] w (((wx.setCell ⟨be,0,none⟩ (num 0)).setCell ⟨be,1,none⟩ ah).setCell ⟨bi,0,none⟩ (num 0)) from hx.trans ((ae.set1 _ _ _ _).then (ae.set1 _ _ _ _)) (fun x hx=>.inr (by have:=dW.out;simp at hx;omega)) |>.trans (ae.set1 _ _ _ _) (fun x hx=>.inr (by have:=dW.out;simp at hx;omega))));have H:=zh h;have HR:=zh hr;have cB:=zh hfr;have aC:=zh qL;have HN:=zh jJ;have HA:=zh zP;have HE:=zh qX;have HI:=zh hi3;have HT:=zh hb4;have e0:=qX.cell 0 _ rfl;have f0:=qX.frozen 0;have e1:=qX.cell 1 _ rfl;have f1:=qX.frozen 1;have i0:=hi3.cell 0 _ rfl;have g0:=hi3.frozen 0;have hrr : (W,0,[],0,.plain 7)=r:=by
  rw [mF,hq] at hr;cases hr;rfl
 subst hrr;obtain⟨wE,bV,fe,kr⟩:=Bz qX hi3 0 0 ah;have Ic:=zh (And.intro fe kr);clear h hr hfr hb0 hc0 hs0 hb1 hc1 hs1 hb2 hc2 hs2 hb3 hc3 hs3 hc4 hs4 hb4 hcw qL jJ zP qX hi3 hwb hlk fe kr hq
 go_enter Tryz.func31,Tryz.ntmps31
 simp only [hbn,jL,hbe,hbi] at *;go_wp2_with fail;have y0:=Ic.out.1.cell 0 _ rfl;have y1:=Ic.out.1.cell 1 _ rfl;have y2:=Ic.out.2.cell 0 _ rfl;refine bodyPost_ret (v:=.tuple #[.agg #[num 0,ah],num 0,.iface 46 (num 7)]) (by simp [results,Tryz.results31,go_sem,y0,y1,y2]) rfl ?_;have hc:=fJ.out w4 aC.out;rw [bV] at hc;exact qw.no H.out hc rfl
theorem acW (g:Nat) {w:World} {Own G:Nat→Prop} {bw:Nat} {W:Wd} {q n:Nm} {args:List Int} {a:Option Addr} {c:Nat} {fuel:Nat} {r:Wd × Nat × List Int × Int × Out} {m:Mod} (h:dZ w Own G bw W) {Ga:Nat→Prop} (hrow:Row w Ga a (ints args)) (hga : ∀ x,Ga x→x < w.heap.size∧¬ Own x) (hal : args.length≤2000) (hfu : fuel≤9223372036854775807) (hq:W.M q=some m) (hr : mF g W q n args fuel=some r) :
  Calls Tryz.prog 31 #[ptr bw,str q,str n,.slice a args.length c,num fuel] w (qw w Own G bw r):=by
 have mO : ∀ (fn:Fn) (first cap:Array Value) (w:World),(Instr.makeFunc fn first cap).run Tryz.prog w = .ok (.func fn first cap) w:=fun _ _ _ _=>rfl
 obtain⟨pv,oa,oc,hfr⟩:=h.front;obtain⟨bp,L,bR,rfl,hhas,fZ⟩ : ∃ bp L bR,pv=some bp∧Has w Own G bw W L∧ng w Own G bw W L bp (.slice oa W.order.length oc) bR:=by
  rcases hfr.at_ with⟨_,rfl,_⟩|h
  ·cases hq
  ·exact h
 have hqq:=fZ.2.2.2.2.2.2 q;rw [hq] at hqq;obtain⟨hget,hown,bv,⟨_,hbv,_⟩,iX⟩:=hqq;have hlk : ∀ w',ae [] w w'→(Instr.lookup 38 (.map (some bp)) (str q) true).run Tryz.prog w' = .ok (.tuple #[ptr (L.pb q),.bool true]) w':=fun w' hc=>by
  have hl:=jV (P:=Tryz.prog) Tryz.underlying38 Tryz.underlying9 (rR w') (fZ.2.2.1.kept hc (by simp)) q;rw [hget] at hl;exact hl
 obtain⟨w0,hw0⟩ : ∃ x,w.alloc (.cells #[str n] 9)=x:=⟨_,rfl⟩
 have hb0:ag w0 w.heap.size #[str n] 9:=by rw [← hw0];exact ag.new w _ _
 have hc0:ae [] w w0:=by rw [← hw0];exact(ae.refl _ _).alloc _
 have hs0 : w0.heap.size=w.heap.size + 1:=by rw [← hw0];simp
 obtain⟨w1,hw1⟩ : ∃ x,w0.alloc (.cells #[.slice a args.length c] 41)=x:=⟨_,rfl⟩
 have hb1:ag w1 w0.heap.size #[.slice a args.length c] 41:=by rw [← hw1];exact ag.new w0 _ _
 have hc1:ae [] w0 w1:=by rw [← hw1];exact(ae.refl _ _).alloc _
 have hs1 : w1.heap.size=w0.heap.size + 1:=by rw [← hw1];simp
 obtain⟨w2,hw2⟩ : ∃ x,w1.alloc (.cells #[num 0,ah] 43)=x:=⟨_,rfl⟩
 have hb2:ag w2 w1.heap.size #[num 0,ah] 43:=by rw [← hw2];exact ag.new w1 _ _
 have hc2:ae [] w1 w2:=by rw [← hw2];exact(ae.refl _ _).alloc _
 have hs2 : w2.heap.size=w1.heap.size + 1:=by rw [← hw2];simp
 obtain⟨w3,hw3⟩ : ∃ x,w2.alloc (.cells #[num 0] bO)=x:=⟨_,rfl⟩
 have hb3:ag w3 w2.heap.size #[num 0] bO:=by rw [← hw3];exact ag.new w2 _ _
 have hc3:ae [] w2 w3:=by rw [← hw3];exact(ae.refl _ _).alloc _
 have hs3 : w3.heap.size=w2.heap.size + 1:=by rw [← hw3];simp
 obtain⟨w4,hw4⟩ : ∃ x,w3.alloc (.cells #[ptr (L.pb q)] 94)=x:=⟨_,rfl⟩
 have hb4:ag w4 w3.heap.size #[ptr (L.pb q)] 94:=by rw [← hw4];exact ag.new w3 _ _
 have hc4:ae [] w3 w4:=by rw [← hw4];exact(ae.refl _ _).alloc _
 have hs4 : w4.heap.size=w3.heap.size + 1:=by rw [← hw4];simp
 obtain⟨bn,hbn⟩ : ∃ b,b=w.heap.size:=⟨_,rfl⟩
 obtain⟨ba,jL⟩ : ∃ b,b=w0.heap.size:=⟨_,rfl⟩
 obtain⟨be,hbe⟩ : ∃ b,b=w1.heap.size:=⟨_,rfl⟩
 obtain⟨bi,hbi⟩ : ∃ b,b=w2.heap.size:=⟨_,rfl⟩
 obtain⟨bt,hbt⟩ : ∃ b,b=w3.heap.size:=⟨_,rfl⟩
 have hcw:ae [] w w3:=hc0.then (hc1.then (hc2.then hc3))
 have qL:ae [] w w4:=hcw.then hc4
 have jJ:=(((hb0.kept hc1 (by simp)).kept hc2 (by simp)).kept hc3 (by simp)).kept hc4 (by simp);have zP:=((hb1.kept hc2 (by simp)).kept hc3 (by simp)).kept hc4 (by simp);have qX:=(hb2.kept hc3 (by simp)).kept hc4 (by simp);have hi3:=hb3.kept hc4 (by simp);have hne : w2.heap.size≠w1.heap.size:=by omega
 have hne' : w1.heap.size≠w2.heap.size:=by omega
 have hwb:=hfr.blk.kept hcw (by simp);rw [← hbn] at jJ;rw [← jL] at zP;rw [← hbe] at qX;rw [← hbi] at hi3;rw [← hbt] at hb4;have b0:=hwb.cell 0 _ rfl;have b1:=hwb.cell 1 _ rfl;have Tv:=hlk w3 hcw;have dW:=zh (show bn=w.heap.size∧ba=w.heap.size + 1∧be=w.heap.size + 2∧bi=w.heap.size + 3∧bt=w.heap.size + 4∧w4.heap.size=w.heap.size + 5∧bw < w.heap.size by
  have:=h.lt bw (.inl h.own);omega)
 have fJ:=zh (fun(wx:World) (hx:ae [] w wx)=>(show ae [] w (((wx.setCell ⟨be,0,none⟩ (num 0)).setCell ⟨be,1,none⟩ ah).setCell ⟨bi,0,none⟩ (num 0)) from hx.trans ((ae.set1 _ _ _ _).then (ae.set1 _ _ _ _)) (fun x hx=>.inr (by have:=dW.out;simp at hx;omega)) |>.trans (ae.set1 _ _ _ _) (fun x hx=>.inr (by have:=dW.out;simp at hx;omega))));have H:=zh h;have HR:=zh hr;have cB:=zh hfr;have aC:=zh qL;have HN:=zh jJ;have HA:=zh zP;have HE:=zh qX;have HI:=zh hi3;have HT:=zh hb4;obtain⟨hpo,dK,ai,ci,av,cv,ap,cp,ab,cb,fD,es,hp3,hmod,_,_,_⟩:=iX.kept qL (by simp);obtain⟨vi,vv,vp,vb,nQ,_,_,hpr,_⟩:=hmod;cases nQ
 have p3:=hp3.cell 3 _ rfl;have t0:=hb4.cell 0 _ rfl;have AX:=zh (aci m.procs dK.procs n bn _ _ w4 (uN hpr) (jJ.cell 0 _ rfl));have oO:=zh hpr;have qx:=zh hp3;have qc:=zh dK;have kM:=zh hhas;have fC:=zh fZ;have iD:=zh hrow;have eY:=zh hga;have KJ:=zh hal;have Lv:=zh hfu;have HQ:=zh hq;clear h hr hfr hb0 hc0 hs0 hb1 hc1 hs1 hb2 hc2 hs2 hb3 hc3 hs3 hc4 hs4 hcw qL jJ zP qX hi3 hwb hlk hq hhas fZ hget hown hbv iX hpo dK hp3 hpr hrow hga hal hfu
 go_enter Tryz.func31,Tryz.ntmps31
 rw [hbt] at t0;rw [hbn] at AX;go_wp2_with fail;refine AX.out.mono ?_;rintro e w5 ⟨hat,bC⟩;rw [← hbn,← jL,← hbe,← hbi,← hbt];clear hw0 hw1 hw2 hw3 hw4 hbn jL hbe hbi hbt hne hne' b0 b1 Tv p3 t0;have cO:=zh bC;have hk5:ae [] w w5:=aC.out.then bC
 obtain⟨bk,hbk⟩ : ∃ b,b=w5.heap.size:=⟨_,rfl⟩
 have hcell : ∀ kk:Int,∃ w6,(w5.alloc (.cells #[num 0] 3)).setCell ⟨w5.heap.size,0,none⟩ (num kk)=w6∧ae [] w5 w6∧ag w6 bk #[num kk] 3∧w6.heap.size=w5.heap.size + 1:=fun kk=>by
  refine⟨_,rfl,((ae.refl [] w5).alloc _).trans (ae.set1 _ _ _ _) (fun x hx=>.inr (by simp at hx;omega)),?_,by simp⟩;rw [hbk]
  simpa using (ag.new w5 #[num 0] 3).set 0 (num kk)
 have p3:=(qx.out.kept bC (by simp)).cell 3 _ rfl;have hn0:=(HT.out.kept bC (by simp)).cell 0 _ rfl;have hm0:=(HN.out.kept bC (by simp)).cell 0 _ rfl;cases vJ : m.procs.find? fun p=>p.name == n && p.seen with
 | none=>
  rw [ik,vJ] at hat;simp only at hat;subst hat;obtain⟨w6,iq,hc6,hb6,hs6⟩:=hcell (-1);have zQ:=(HE.out.kept bC (by simp)).kept hc6 (by simp);have zR:=(HI.out.kept bC (by simp)).kept hc6 (by simp);have e0:=zQ.cell 0 _ rfl;have f0:=zQ.frozen 0;have e1:=zQ.cell 1 _ rfl;have f1:=zQ.frozen 1;have i0:=zR.cell 0 _ rfl;have g0:=zR.frozen 0;have k0:=hb6.cell 0 _ rfl;have hne : bi≠be:=by have:=dW.out;omega
  have hne' : be≠bi:=by have:=dW.out;omega
  rw [hbk] at k0;clear hbk;have Ic:=zh (And.intro zQ zR);have bI:=zh (hk5.then hc6);have hrr : (W,0,[],0,.plain 7)=r:=by
   have hr:=HR.out;rw [mF,HQ.out] at hr;simp only at hr;rw [vJ] at hr;simp only at hr;cases hr;rfl
  subst hrr;obtain⟨wE,bV,fe,kr⟩:=Bz zQ zR 0 0 ah;have oZ:=zh (And.intro fe kr);clear bC hk5 hcell hc6 hb6 hs6 zQ zR fe kr vJ;go_wp2_with fail;have y0:=oZ.out.1.cell 0 _ rfl;have y1:=oZ.out.1.cell 1 _ rfl;have y2:=oZ.out.2.cell 0 _ rfl;refine bodyPost_ret (v:=.tuple #[.agg #[num 0,ah],num 0,.iface 46 (num 7)]) (by simp [results,Tryz.results31,go_sem,y0,y1,y2]) rfl ?_;have hc:=fJ.out w6 bI.out;rw [bV] at hc;exact qw.no H.out hc rfl
 | some p=>
  rw [ik,vJ] at hat;obtain⟨kk,hkk,rfl⟩:=hat;obtain⟨w6,iq,hc6,hb6,hs6⟩:=hcell kk;have ig:=zh vJ;have HKK:=zh hkk;have k0:=hb6.cell 0 _ rfl;rw [hbk] at k0;have bI:=zh (hk5.then hc6);have lS:=zh hb6;have BA:=zh hs6;have BB:=zh hc6;have ais : ¬ ((kk:Int) < 0):=by omega
  obtain⟨wD,aI⟩ : ∃ x,x=w6.drew:=⟨_,rfl⟩
  have bz:ae [] w6 wD:=by rw [aI];exact(ae.refl [] w6).drew
  have dL:=zh bz;obtain⟨bb,off,cc,Kj,Kk,Kl,hsl,hcc,_,_,_,d3,_,_,hn1,_,_⟩:=Gg (((oO.out.kept bC (by simp)).kept hc6 (by simp)).kept bz (by simp)) hkk;simp only [Value.slice.injEq,true_and] at hsl;obtain⟨rfl,rfl⟩:=hsl;obtain⟨aq,cq,rfl,_⟩:=hn1;have hkl:=(List.getElem?_eq_some_iff.1 hkk).1;have HKL:=zh hkl;have En:ae [] w4 wD:=(bC.then hc6).then bz
  have nV:=zh En;have a0:=(HA.out.kept En (by simp)).cell 0 _ rfl;have t0:=(HT.out.kept En (by simp)).cell 0 _ rfl;have Tw:=(qx.out.kept En (by simp)).cell 3 _ rfl;have kD:=(hb6.kept bz (by simp)).cell 0 _ rfl;have Z3:=zh (bZ.of (X:=[]) (w0:=wD) Tw (by simp));clear vJ hkk hc6 hb6 hs6 hcell bz En bC;go_wp2_with fail;rw [← hbk];clear hbk iq k0 hn0 hm0 p3 hk5;cases hcmp : ((args.length:Int) != (p.params.length:Int)) with
  | true=>
   have hne' : args.length≠p.params.length:=fun e=>by simp [e] at hcmp
   have hrr : (W,0,[],0,.plain 2)=r:=by
    have hr:=HR.out;rw [mF,HQ.out] at hr;simp only at hr;rw [ig.out] at hr;simp only at hr;rw [if_pos hne'] at hr;cases hr;rfl
   subst hrr;have uf:=HE.out.kept nV.out (by simp);have Ie:=HI.out.kept nV.out (by simp);have e0:=uf.cell 0 _ rfl;have f0:=uf.frozen 0;have e1:=uf.cell 1 _ rfl;have f1:=uf.frozen 1;have i0:=Ie.cell 0 _ rfl;have g0:=Ie.frozen 0;have hnx : bi≠be:=by have:=dW.out;omega
   have GX : be≠bi:=by have:=dW.out;omega
   obtain⟨wE,bV,fe,kr⟩:=Bz uf Ie 0 0 ah;have oZ:=zh (And.intro fe kr);clear uf Ie fe kr hne';refine ug [] rfl (by kernel_rfl) ?_;rw [← aI];clear aI;have hS:ae [] wD wD:=ae.refl _ _
   repeat ((with_reducible refine gX ?_);(first|refine aM ?_|refine sK ?_|refine sM fun _ _=>?_|refine sL fun _ _=>?_|refine sE fun _ _=>?_);go_wp2_with fail)
   have y0:=oZ.out.1.cell 0 _ rfl;have y1:=oZ.out.1.cell 1 _ rfl;have y2:=oZ.out.2.cell 0 _ rfl;refine bodyPost_ret (v:=.tuple #[.agg #[num 0,ah],num 0,.iface 46 (num 2)]) (by simp [results,Tryz.results31,go_sem,y0,y1,y2]) rfl ?_;have hc:=fJ.out wD (aC.out.then nV.out);rw [bV] at hc;exact qw.no H.out hc rfl
  | false=>
   have hln : args.length=p.params.length:=by
    have : (args.length:Int)=p.params.length:=by simpa using hcmp
    omega
   obtain⟨ob,lq⟩ : ∃ o,o=(fns W.M g).c 0 q p args ⟨fuel,[],W.vs⟩:=⟨_,rfl⟩
   have hr:=HR.out;rw [mF,HQ.out] at hr;simp only at hr;rw [ig.out] at hr;simp only at hr;rw [if_neg (by simpa using hln),← lq] at hr;have um : ob ≠ .stuck:=fun h=>by rw [h] at hr;cases hr
   have Eo:ae [] w wD:=aC.out.then nV.out
   have hXl : ∃ X:List Nat,(∀ n s',ob = .ok n s'→X=[bi])∧(∀ way s',ob = .stop way s'→X=[]):=by
    cases ob with
    | ok n s'=>exact⟨[bi],fun _ _ _=>rfl,fun _ _ h=>by cases h⟩
    | stop way s'=>exact⟨[],fun _ _ h=>(by cases h),fun _ _ _=>rfl⟩
    | stuck=>exact absurd rfl um
   obtain⟨X,hX1,hX2⟩:=hXl;have Ma : ∀ x∈X,x=bi:=fun x hx=>by
    cases Mc : ob with
    | ok n s'=>rw [hX1 n s' Mc] at hx;simpa using hx
    | stop way s'=>rw [hX2 way s' Mc] at hx;cases hx
    | stuck=>exact absurd Mc um
   have hlow:=fun x (hx : w.heap.size≤x)=>kM.out.home.low hx
   have hsD:=Eo.size;have Eg:=zh (aaX 66 (ptr bt) (ptr bk) (ptr ba) (ptr bi) (fun args w=>rfl) ob (fun w' n e=>e = .returned (.tuple #[])∧ag w' bi #[num n] bO) (fun _ _ _ h=>h.1) L W.vs fuel Lv.out X wD (kM.out.home.kept Eo) (fun x hx=>by rw [Ma x hx];have:=dW.out;have:=nV.out.size;omega) um (fun w1 br hbr hc1 hg=>by
    rw [lq,← kM.out.M];exact acf (L:={ L with br:=br }) (q:=q) (m:=m) (p:=p) (k:=kk) (args:=args) (a:=a) (c:=c) (b13:=bt) (b15:=bk) (b8:=ba) (b11:=bi) (u:=num 0) g hg (by show L.M q=some m;rw [kM.out.M];exact HQ.out) HKK.out (((HT.out.kept nV.out (by simp)).kept hc1 (by simp))) (((lS.out.kept dL.out (by simp)).kept hc1 (by simp))) (((HA.out.kept nV.out (by simp)).kept hc1 (by simp))) (((HI.out.kept nV.out (by simp)).kept hc1 (by simp))) ⟨fun hm=>by
     have hb:=hlow bi (by have:=dW.out;omega);rcases List.mem_cons.1 hm with h|hm
     ·have h : bi=br:=h
      have:=dW.out;have:=nV.out.size;omega
     ·exact hb.2 (by simpa [blk] using hm),(hlow bi (by have:=dW.out;omega)).1⟩ ((((iD.out.kept Eo (by simp)).kept hc1 (by simp))).mono (fun x hx hm=>by
     have hx:=eY.out x hx;rcases List.mem_cons.1 hm with h|hm
     ·have h : x=br:=h
      omega
     ·exact hx.2 (kM.out.ay x (by simpa [blk] using hm)))) KJ.out (by show (fns L.M g).c 0 q p args _≠_;rw [kM.out.M,← lq];exact um) X (fun n s' he=>hX1 n s' (by rw [lq,← kM.out.M];exact he))))
   rw [kM.out.lg] at Eg;have HOB:=zh lq;have HRR:=zh hr;have fK:=zh hX1;have nu:=zh hX2;have HXB:=zh Ma;have zw:=zh hlow;have Md:=zh Eo;clear lq hr um hX1 hX2 Ma hlow hsD Eo hln;refine ug [] rfl (by kernel_rfl) ?_;rw [← aI];clear aI;have hS:ae [] wD wD:=ae.refl _ _
   repeat ((with_reducible refine gX ?_);(first|refine aM ?_|refine sK ?_|refine sM fun _ _=>?_|refine sL fun _ _=>?_|refine sE fun _ _=>?_);go_wp2_with fail)
   clear hS Z3 a0 t0 Tw kD d3;refine Eg.out.mono ?_;rintro _ w9 ⟨ve,rfl,hev,Br,bN,hok⟩;obtain⟨eov,rfl,xN,hef⟩:=hev;obtain⟨ea,ec,rfl⟩:=gu xN;have hbx : ∀ x,x=be∨x=bi→x∉L.ay:=fun x hx=>(zw.out x (by have:=dW.out;omega)).2
   have iR:=(HE.out.kept nV.out (by simp)).kept bN (fun hm=>by
    rcases List.mem_append.1 hm with h|h
    ·have:=HXB.out _ h;have:=dW.out;omega
    ·exact hbx be (.inl rfl) h)
   have Eh:=zh Br;have dm:=zh bN;have qm:=zh xN;have oZ:=zh hef;have e0:=iR.cell 0 _ rfl;have f0:=iR.frozen 0;have e1:=iR.cell 1 _ rfl;have f1:=iR.frozen 1;have Ei:=zh iR;have hnx : bi≠be:=by have:=dW.out;omega
   have GX : be≠bi:=by have:=dW.out;omega
   cases lq : ob with
   | stuck=>
    have:=HRR.out;rw [lq] at this;cases this
   | ok nn s9=>
    obtain⟨w2',⟨_,Tx⟩,hcw2⟩:=hok nn s9 lq;have vL:ag w9 bi #[num nn] bO:=Tx.kept hcw2 (by have:=nV.out.size;have:=dW.out;simp;omega);have i0:=vL.cell 0 _ rfl;have g0:=vL.frozen 0;have Ig:=zh vL;have aiu:=zh lq;subst lq;clear Br bN xN hef iR vL hok hbx Tx hcw2;simp only [zt,tX] at *;obtain⟨wS,gT,hbS,eX⟩:=mD 1 (.slice ea s9.out.length ec) Ei.out;have ny:=Ig.out.kept eX (by simpa using hnx);have s0:=hbS.cell 0 _ rfl;have s1:=hbS.cell 1 _ rfl;have t0:=hbS.frozen 0;have t1:=hbS.frozen 1;have j0:=ny.cell 0 _ rfl;have j1:=ny.frozen 0;have jP:=zh hbS;have HIS:=zh ny;have jk:=zh eX;clear hbS ny eX;go_wp2_with fail;clear e0 f0 e1 f1 i0 g0 gT;have Ty:=(jP.out.kept (ae.refl [] wS).drew (by simp)).cell 0 _ rfl;have s1':=(jP.out.kept (ae.refl [] wS).drew (by simp)).cell 1 _ rfl;have Tz:=(HIS.out.kept (ae.refl [] wS).drew (by simp)).cell 0 _ rfl
    go_region
    all_goals (try go_wp2_with fail)
    obtain⟨wE,bV,fe,kr⟩:=Bz jP.out HIS.out 1 nn (.slice ea s9.out.length ec);have fu:ae [be,bi] wS wE:=by
     rw [← bV];exact(((ae.refl [be,bi] wS).setCell _ (.inl (by simp)) _).setCell _ (.inl (by simp)) _).setCell _ (.inl (by simp)) _
    rw [bV];have y0:=(fe.kept (ae.refl [] wE).drew (by simp)).cell 0 _ rfl;have y1:=(fe.kept (ae.refl [] wE).drew (by simp)).cell 1 _ rfl;have y2:=(kr.kept (ae.refl [] wE).drew (by simp)).cell 0 _ rfl;refine bodyPost_ret (v:=.tuple #[.agg #[num 1,.slice ea s9.out.length ec],num nn,.nilIface]) (by simp [results,Tryz.results31,go_sem,y0,y1,y2]) rfl ?_;have hrr:=HRR.out;simp only [Option.some.injEq] at hrr;subst hrr;exact qw.done (bi:=bi) (be:=be) (way:=1) H.out kM.out Md.out Eh.out dm.out HXB.out (by have:=dW.out;have:=nV.out.size;omega) qm.out oZ.out (((jk.out.mono (fun x hx=>.inl (by simp at hx;simp [hx]))).then fu).then (ae.refl [be,bi] wE).drew)
   | stop way s9=>
    have hXn:X=[]:=nu.out way s9 lq;subst hXn;have vL:ag w9 bi #[num 0] bO:=(HI.out.kept nV.out (by simp)).kept bN (fun hm=>hbx bi (.inr rfl) (by simpa using hm));have i0:=vL.cell 0 _ rfl;have g0:=vL.frozen 0;have Ig:=zh vL;subst lq;clear Br bN xN hef iR vL hok hbx;simp only [zt,tX] at *;by_cases ac0 : way=1
    ·subst ac0
     obtain⟨wS,gT,hbS,eX⟩:=mD 1 (.slice ea s9.out.length ec) Ei.out;have ny:=Ig.out.kept eX (by simpa using hnx);have s0:=hbS.cell 0 _ rfl;have s1:=hbS.cell 1 _ rfl;have t0:=hbS.frozen 0;have t1:=hbS.frozen 1;have j0:=ny.cell 0 _ rfl;have j1:=ny.frozen 0;have jP:=zh hbS;have HIS:=zh ny;have jk:=zh eX;clear hbS ny eX;go_wp2_with fail;clear e0 f0 e1 f1 i0 g0 gT;have Ty:=(jP.out.kept (ae.refl [] wS).drew (by simp)).cell 0 _ rfl;have s1':=(jP.out.kept (ae.refl [] wS).drew (by simp)).cell 1 _ rfl;have Tz:=(HIS.out.kept (ae.refl [] wS).drew (by simp)).cell 0 _ rfl
     go_region
     all_goals (try go_wp2_with fail)
     obtain⟨wE,bV,fe,kr⟩:=Bz jP.out HIS.out 1 0 (.slice ea s9.out.length ec);have fu:ae [be,bi] wS wE:=by
      rw [← bV];exact(((ae.refl [be,bi] wS).setCell _ (.inl (by simp)) _).setCell _ (.inl (by simp)) _).setCell _ (.inl (by simp)) _
     rw [bV];have y0:=(fe.kept (ae.refl [] wE).drew (by simp)).cell 0 _ rfl;have y1:=(fe.kept (ae.refl [] wE).drew (by simp)).cell 1 _ rfl;have y2:=(kr.kept (ae.refl [] wE).drew (by simp)).cell 0 _ rfl;refine bodyPost_ret (v:=.tuple #[.agg #[num 1,.slice ea s9.out.length ec],num 0,.nilIface]) (by simp [results,Tryz.results31,go_sem,y0,y1,y2]) rfl ?_;have hrr:=HRR.out;simp only [Option.some.injEq] at hrr;subst hrr;exact qw.done (bi:=bi) (be:=be) (way:=1) H.out kM.out Md.out Eh.out dm.out HXB.out (by have:=dW.out;have:=nV.out.size;omega) qm.out oZ.out (((jk.out.mono (fun x hx=>.inl (by simp at hx;simp [hx]))).then fu).then (ae.refl [be,bi] wE).drew)
    ·have aiv : ¬ (way:Int)=1:=by omega
     obtain⟨wS,gT,hbS,eX⟩:=mD way (.slice ea s9.out.length ec) Ei.out;have ny:=Ig.out.kept eX (by simpa using hnx);have s0:=hbS.cell 0 _ rfl;have s1:=hbS.cell 1 _ rfl;have t0:=hbS.frozen 0;have t1:=hbS.frozen 1;have j0:=ny.cell 0 _ rfl;have j1:=ny.frozen 0;obtain⟨wT,hwT⟩ : ∃ x,wS.setCell ⟨bi,0,none⟩ (num 0)=x:=⟨_,rfl⟩
     have ji:ae [bi] wS wT:=by rw [← hwT];exact ae.set1 _ _ _ _
     have TA:ag wT bi #[num 0] bO:=by rw [← hwT];simpa using ny.set 0 (num 0)
     have xH:=hbS.kept ji (by simpa using GX);have jk:=zh eX;have zS:=zh xH;have HIT:=zh TA;have fO:=zh ji;clear hbS ny eX ji TA xH;go_wp2_with fail;clear e0 f0 e1 f1 i0 g0 gT s0 s1 t0 t1 j0 j1 hwT;have s0:=zS.out.cell 0 _ rfl;have s1:=zS.out.cell 1 _ rfl;have t0:=zS.out.frozen 0;have t1:=zS.out.frozen 1;have j0:=HIT.out.cell 0 _ rfl;have j1:=HIT.out.frozen 0;have Ty:=(zS.out.kept (ae.refl [] wT).drew (by simp)).cell 0 _ rfl;have s1':=(zS.out.kept (ae.refl [] wT).drew (by simp)).cell 1 _ rfl;have Tz:=(HIT.out.kept (ae.refl [] wT).drew (by simp)).cell 0 _ rfl
     go_region
     all_goals (try go_wp2_with fail)
     obtain⟨wE,bV,fe,kr⟩:=Bz zS.out HIT.out way 0 (.slice ea s9.out.length ec);have fu:ae [be,bi] wT wE:=by
      rw [← bV];exact(((ae.refl [be,bi] wT).setCell _ (.inl (by simp)) _).setCell _ (.inl (by simp)) _).setCell _ (.inl (by simp)) _
     rw [bV];have y0:=(fe.kept (ae.refl [] wE).drew (by simp)).cell 0 _ rfl;have y1:=(fe.kept (ae.refl [] wE).drew (by simp)).cell 1 _ rfl;have y2:=(kr.kept (ae.refl [] wE).drew (by simp)).cell 0 _ rfl;refine bodyPost_ret (v:=.tuple #[.agg #[num way,.slice ea s9.out.length ec],num 0,.nilIface]) (by simp [results,Tryz.results31,go_sem,y0,y1,y2]) rfl ?_;have hrr:=HRR.out;simp only [Option.some.injEq] at hrr;subst hrr;exact qw.done (bi:=bi) (be:=be) (way:=way) H.out kM.out Md.out Eh.out dm.out HXB.out (by have:=dW.out;have:=nV.out.size;omega) qm.out oZ.out ((((jk.out.mono (fun x hx=>.inl (by simp at hx;simp [hx]))).then (fO.out.mono (fun x hx=>.inl (by simp at hx;simp [hx])))).then fu).then (ae.refl [be,bi] wE).drew)
theorem TB (g:Nat) {w:World} {Own G:Nat→Prop} {bw:Nat} {W:Wd} {q n:Nm} {args:List Int} {a:Option Addr} {c:Nat} {fuel:Nat} {r:Wd × Nat × List Int × Int × Out} (h:dZ w Own G bw W) {Ga:Nat→Prop} (hrow:Row w Ga a (ints args)) (hga : ∀ x,Ga x→x < w.heap.size∧¬ Own x) (hal : args.length≤2000) (hfu : fuel≤9223372036854775807) (hr : mF g W q n args fuel=some r) :
  Calls Tryz.prog 31 #[ptr bw,str q,str n,.slice a args.length c,num fuel] w (qw w Own G bw r):=by
 cases hq:W.M q with
 | none=>exact acV g h hq hr
 | some m=>exact acW g h hrow hga hal hfu hq hr
end Go.Proofs.YtechofppmnnomaaGreatDoor
namespace Go.Proofs.YtechofppmnnomaaGreatDoor
open Go Go.RowKit Go.Mq Go.Mq.Tree Go.Mq.Sym Go.Mq.Run
open Go.Mq.fo (aZ getM dB jm jV mQ jo)
set_option maxRecDepth 100000
set_option maxHeartbeats 4000000
theorem ac1 (l:List Int) (hl : l.length≤1000) (a:Addr) (c:Nat) (F:Nat→Prop) (w:World) (hrow:Row w F (some a) (ints l)) :
  Calls Tryz.prog 58 #[.slice (some a) l.length c] w (fun e w'=>∃ v',e = .returned v'∧w'.ownsRow 0 bO 1 v' l.length (ints l)∧From w.heap.size v'∧ae [] w w'):=by
 have hne : ∀ w,(binOp BinOp.eql 41 (.slice (some a) l.length c) (.slice none 0 0)).run Tryz.prog w = .ok (.bool false) w:=fun _=>rfl
 have hown : (w.alloc (.cells #[] bO)).ownsRow 0 bO 1 (.slice (some ⟨w.heap.size,0,none⟩) 0 0) 0 []:=⟨rfl,.inr ⟨w.heap.size,0,#[],rfl,Nat.zero_le _,heap_alloc_new w _,Nat.le_refl _,Nat.zero_le _,rfl,rfl⟩⟩;have HOWN:=zh hown;have aO:ae [] w (w.alloc (.cells #[] bO)):=(ae.refl _ _).alloc _;have HAT:=zh ((hrow.kept aO (by simp)).at_);have rX:=zh aO;clear hrow hown aO
 go_enter Tryz.func58,Tryz.ntmps58
 go_wp2_with (at_builtin;go_must (refine CK rfl _ _ 41 rfl bO _ 1 8 AR Tryz.underlying41 rfl (by decide) _ 0 [] rfl HOWN.out (some a) l.length c (ints l) rfl ?_ HAT.out ?_ ?_ ?_ ?_))
 ·simp
 ·intro u hu
  simp only [ints,List.mem_map] at hu;obtain⟨x,_,rfl⟩:=hu
  rfl
 ·omega
 ·unfold maxLen;omega
 ·intro v' w' hown' hch' bX
  have HO:=zh (show w'.ownsRow 0 bO 1 v' l.length (ints l) by simpa using hown');have hf:From w.heap.size v':=fun g hg=>by
   rcases bX g hg with h1|h1
   ·simp [blk] at h1;omega
   ·simp at h1;omega
  have HF:=zh hf;have HC:=zh (rX.out.trans hch' (fun x hx=>.inr (by simp [blk] at hx;omega)));clear hown' hch' bX hf;go_wp2_with fail;go_ret
  exact⟨_,rfl,HO.out,HF.out,HC.out⟩
theorem ac2 (l:List Nm) (hl : l.length≤1000) (v:Value) (w:World) (hv : w.ownsRow 0 9 1 v l.length (l.map str)) :
  Calls Tryz.prog 87 #[v] w (fun e w'=>∃ v',e = .returned v'∧w'.ownsRow 0 9 1 v' l.length (l.map str)∧From w.heap.size v'∧ae [] w w'):=by
 obtain⟨a,c,rfl,hlc,hrow⟩:=Row.jF (F:=fun _=>True) hv (fun _ _=>trivial);cases a with
 | none=>
  have hc0 : c=0∧l=[]:=by
   rcases hv.2 with⟨h,h2⟩|⟨g,cap,cur,h,_⟩
   ·simp only [Value.slice.injEq,true_and] at h
    exact⟨h.2,List.eq_nil_of_length_eq_zero h2⟩
   ·simp at h
  obtain⟨rfl,rfl⟩:=hc0;clear hrow hlc hv;have hne : ∀ w,(binOp BinOp.eql 27 (.slice none 0 0) (.slice none 0 0)).run Tryz.prog w = .ok (.bool true) w:=fun _=>rfl
  change Calls _ _ #[.slice none 0 0] _ _
  go_enter Tryz.func87,Tryz.ntmps87
  go_wp2_with fail;go_ret
  exact⟨_,rfl,World.ownsRow_nil _ _ _ _,From.nil _,ae.refl _ _⟩
 | some p=>
  have hne : ∀ w,(binOp BinOp.eql 27 (.slice (some p) l.length c) (.slice none 0 0)).run Tryz.prog w = .ok (.bool false) w:=fun _=>rfl
  have hown : (w.alloc (.cells #[] 9)).ownsRow 0 9 1 (.slice (some ⟨w.heap.size,0,none⟩) 0 0) 0 []:=⟨rfl,.inr ⟨w.heap.size,0,#[],rfl,Nat.zero_le _,heap_alloc_new w _,Nat.le_refl _,Nat.zero_le _,rfl,rfl⟩⟩;have HOWN:=zh hown;have aO:ae [] w (w.alloc (.cells #[] 9)):=(ae.refl _ _).alloc _;have HAT:=zh ((hrow.kept aO (by simp)).at_);have rX:=zh aO;clear hrow hown aO hv
  go_enter Tryz.func87,Tryz.ntmps87
  go_wp2_with (at_builtin;go_must (refine CK rfl _ _ 27 rfl 9 _ 1 16 Ba Tryz.underlying27 rfl (by decide) _ 0 [] rfl HOWN.out (some p) l.length c (l.map str) rfl ?_ HAT.out ?_ ?_ ?_ ?_))
  ·simp
  ·intro u hu
   simp only [List.mem_map] at hu;obtain⟨x,_,rfl⟩:=hu
   rfl
  ·omega
  ·unfold maxLen;omega
  ·intro v' w' hown' hch' bX
   have HO:=zh (show w'.ownsRow 0 9 1 v' l.length (l.map str) by simpa using hown');have hf:From w.heap.size v':=fun g hg=>by
    rcases bX g hg with h1|h1
    ·simp [blk] at h1;omega
    ·simp at h1;omega
   have HF:=zh hf;have HC:=zh (rX.out.trans hch' (fun x hx=>.inr (by simp [blk] at hx;omega)));clear hown' hch' bX hf;go_wp2_with fail;go_ret
   exact⟨_,rfl,HO.out,HF.out,HC.out⟩
theorem ac3 {w:World} {Own G:Nat→Prop} {bw:Nat} {W:Wd} (h:dZ w Own G bw W) :
  Calls Tryz.prog 45 #[ptr bw] w (fun e w'=>∃ v',e = .returned v'∧w'.ownsRow 0 9 1 v' W.order.length (W.order.map str)∧From w.heap.size v'∧ae [] w w'):=by
 obtain⟨pv,oa,oc,hfr⟩:=h.front;have ho : w.ownsRow 0 9 1 (.slice oa W.order.length oc) W.order.length (W.order.map str):=by
  rcases hfr.at_ with⟨_,rfl,rfl,rfl⟩|⟨bp,L,bR,_,_,ho⟩
  ·exact World.ownsRow_nil _ _ _ _
  ·exact ho.2.1
 have b1:=hfr.blk.cell 1 _ rfl;have HC:=zh (ac2 W.order (by have:=h.few;omega) _ w ho);clear h hfr ho
 go_enter Tryz.func45,Tryz.ntmps45
 go_wp2_with fail;refine HC.out.mono ?_;rintro _ w1 ⟨v',rfl,h1,h2,h3⟩;have H1:=zh h1;clear h1;go_wp2_with fail;go_ret
 exact⟨_,rfl,H1.out,h2,h3⟩
def qy (W:Wd) (q n:Nm):Option (List Int):=(W.M q).bind fun _=>W.vs q n
theorem ac4 {W:Wd} {q n:Nm} (h:W.M q=none) : qy W q n=none:=by rw [qy,h];rfl
theorem Ep {W:Wd} {q n:Nm} {m:Mod} (h:W.M q=some m) : qy W q n=W.vs q n:=by rw [qy,h];rfl
def TC (w:World) (o:Option (List Int)) (e:Ending) (w':World):Prop:=ae [] w w'∧match o with
 | none=>e = .returned (.tuple #[ah,.iface 46 (num 7)])
 | some l=>∃ v,e = .returned (.tuple #[v,.nilIface])∧w'.ownsRow 0 bO 1 v l.length (ints l)∧From w.heap.size v∧l.length≤1000
theorem TD {w:World} {Own G:Nat→Prop} {bw:Nat} {W:Wd} (h:dZ w Own G bw W) (q n:Nm) :
  Calls Tryz.prog 29 #[ptr bw,str q,str n] w (TC w (qy W q n)):=by
 obtain⟨pv,oa,oc,hfr⟩:=h.front;cases hq:W.M q with
 | none=>
  obtain⟨o,hlk⟩:=G9 hfr q;rw [hq] at hlk;have hl:=hlk w (ae.refl _ _);have b0:=hfr.blk.cell 0 _ rfl;rw [ac4 hq];clear h hfr hlk hq
  go_enter Tryz.func29,Tryz.ntmps29
  go_wp2_with fail;go_ret2
  exact⟨ae.refl _ _,rfl⟩
 | some m=>
  obtain⟨bp,L,bR,rfl,hhas,fZ⟩ : ∃ bp L bR,pv=some bp∧Has w Own G bw W L∧ng w Own G bw W L bp (.slice oa W.order.length oc) bR:=by
   rcases hfr.at_ with⟨_,rfl,_⟩|h
   ·cases hq
   ·exact h
  have hqq:=fZ.2.2.2.2.2.2 q;rw [hq] at hqq;obtain⟨hget,hown,bv,_,iX⟩:=hqq;have hl:=jV (P:=Tryz.prog) Tryz.underlying38 Tryz.underlying9 (rR w) fZ.2.2.1 q;rw [hget] at hl;obtain⟨_,_,ai,ci,av,cv,ap,cp,ab,cb,fD,es,hp3,_,_,hmv,hes⟩:=iX;have p5:=hp3.cell 5 _ rfl;have b0:=hfr.blk.cell 0 _ rfl;have hg:=jm (P:=Tryz.prog) Tryz.underlying99 Tryz.underlying9 (Gj w) hmv n;rw [hes n] at hg;have hdy:=hhas.home.dyn q n;rw [Ep hq];cases hd:L.au q n with
  | none=>
   rw [hd] at hdy hg;simp only at hdy;rw [hdy];have hne : ∀ w,(binOp BinOp.eql 41 (.slice none 0 0) (.slice none 0 0)).run Tryz.prog w = .ok (.bool true) w:=fun _=>rfl
   clear h hfr hhas fZ hget hown hp3 hmv hes hdy hd hq
   go_enter Tryz.func29,Tryz.ntmps29
   go_wp2_with fail;go_ret2
   exact⟨ae.refl _ _,rfl⟩
  | some x=>
   obtain⟨b,k⟩:=x;rw [hd] at hdy hg;obtain⟨l,hvs,rfl,hb⟩:=hdy;rw [hvs];have hk:=((hhas.home.lay w.heap.size (Nat.le_refl _)).arr hd).2.2;have hne : ∀ w,(binOp BinOp.eql 41 (.slice (some ⟨b,0,none⟩) l.length l.length) (.slice none 0 0)).run Tryz.prog w = .ok (.bool false) w:=fun _=>rfl
   have HC:=zh (ac1 l (by omega) ⟨b,0,none⟩ l.length (fun _=>True) w ⟨fun _=>⟨b,0,rfl,fun i x hx=>by rw [Nat.zero_add];exact hb.cell i x (by simpa using hx)⟩,fun _ _ _=>trivial⟩);have HK:=zh hk;clear h hfr hhas fZ hget hown hp3 hmv hes hd hq hb hvs hk
   go_enter Tryz.func29,Tryz.ntmps29
   go_wp2_with fail;refine HC.out.mono ?_;rintro _ w1 ⟨v',rfl,h1,h2,h3⟩;have H1:=zh h1;clear h1;go_wp2_with fail;go_ret2
   exact⟨h3,_,rfl,H1.out,h2,HK.out⟩
end Go.Proofs.YtechofppmnnomaaGreatDoor
