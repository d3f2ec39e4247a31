/- Some texts in one. -/
import Derived.Test.YtechofppmnnomaaGreatDoorG10
import Derived.Test.YtechofppmnnomaaGreatDoorG14
import Derived.Test.YtechofppmnnomaaGreatDoorG17
import Derived.Test.YtechofppmnnomaaGreatDoorG21
import Derived.Test.YtechofppmnnomaaGreatDoorG25
import Derived.Test.YtechofppmnnomaaGreatDoorG26
namespace Go.Mq.Run
open Go Go.RowKit Go.Mq Go.Mq.Tree Go.Mq.Sym
open Go.Mq.Check (Env Got exprL bodyL procL procsL nameL argsN check Out check_fine onceL_none FewM)
def envOf (M:Ms) (m:Mod) (lo:List Nm):Env:=⟨m.imports,seenOf M,lo,m.vars,m.procs⟩
def Loc (lo:List Nm) (fr:Fr):Prop:=∀ n,n∈lo↔(getF fr n).isSome
theorem getF_put (fr:Fr) (n:Nm) (v:Int) (k:Nm) : getF (putF fr n v) k=if n=k then some v else getF fr k:=by
 induction fr with
 | nil=>simp [putF,getF]
 | cons p r ih=>
  obtain⟨a,u⟩:=p;rw [putF];split
  ·next h=>subst h;rw [getF,getF];split <;> simp_all
  ·next h=>
   rw [getF,getF,ih];split
   ·next h2=>subst h2;rw [if_neg (fun e=>h e.symm)]
   ·rfl
theorem Loc.put {lo:List Nm} {fr:Fr} (h:Loc lo fr) {n:Nm} (hn : (getF fr n).isSome) (v:Int):Loc lo (putF fr n v):=fun k=>by
 rw [h k,getF_put];split
 ·next e=>subst e;simp [hn]
 ·rfl
def Shape (M:Ms) (vs:Vs):Prop:=∀ q m,M q=some m → ∀ g∈m.vars,∃ l,vs q g.name=some l∧l.length=sizeG g
theorem sizeG_pos (g:Glob) : 1≤sizeG g:=by unfold sizeG;omega
structure OkM (M:Ms):Prop where
 good : ∀ q m,M q=some m→GoodM m∧m.name=q
 fine : ∀ q m,M q=some m→check m (seenOf M) = .fine
theorem Shape.al {M:Ms} {vs vs':Vs} (h:Shape M vs) (k : ∀ q n,(vs' q n).map List.length=(vs q n).map List.length):Shape M vs':=fun q m hq g hg=>by
 obtain⟨l,h1,h2⟩:=h q m hq g hg;have:=k q g.name;rw [h1] at this;cases hv : vs' q g.name with
 | none=>rw [hv] at this;cases this
 | some l'=>rw [hv] at this;simp at this;exact⟨l',rfl,by omega⟩
theorem mem_ofM {m:Mod} {s:Sy} (h : s∈ofM m) : (∃ g∈m.vars,s=varSy g) ∨ ∃ p∈m.procs,s=procSy p:=by
 have:=mem_insSort h;rcases List.mem_append.1 this with h|h
 ·obtain⟨g,hg,rfl⟩:=List.mem_map.1 h;exact .inl ⟨g,(List.mem_filter.1 hg).1,rfl⟩
 ·obtain⟨g,hg,rfl⟩:=List.mem_map.1 h;exact .inr ⟨g,(List.mem_filter.1 hg).1,rfl⟩
theorem findS_is {l:List Sy} {n:Nm} {k:Nat} (h : findS l n=some k) : l.getD k Sy.none∈l∧(l.getD k Sy.none).name=n:=by
 obtain⟨hlt,h2,_⟩:=List.findIdx?_eq_some_iff_getElem.1 h;have e : l.getD k Sy.none=l[k]:=by simp [List.getD,hlt]
 rw [e];exact⟨List.getElem_mem hlt,by simpa using h2⟩
theorem find_far {M:Ms} {m:Mod} {lo:List Nm} {p:Nat} {mm n:Nm} {s:Sy} (hmm : mm≠[]) (h : (envOf M m lo).find p mm n = .is s) : mm∈m.imports ∧ ∃ mo,M mm=some mo∧((∃ g∈mo.vars,s=varSy g∧g.name=n) ∨ ∃ x∈mo.procs,s=procSy x∧x.name=n):=by
 unfold Env.find at h
 rw [if_pos hmm] at h
 change (if mm∉m.imports then Got.bad 5 p else match findS ((seenOf M mm).getD []) n with
  | none=>.bad 7 p
  | some k=>.is (((seenOf M mm).getD []).getD k Sy.none))=Got.is s at h
 by_cases hi : mm∉m.imports
 ·rw [if_pos hi] at h;cases h
 ·rw [if_neg hi] at h
  refine⟨Classical.not_not.1 hi,?_⟩;cases hM:M mm with
  | none=>simp [seenOf,hM,findS] at h
  | some mo=>
   simp only [seenOf,hM,Option.map_some,Option.getD_some] at h;cases hk : findS (ofM mo) n with
   | none=>rw [hk] at h;cases h
   | some k=>
    rw [hk] at h;simp only at h;cases h
    obtain⟨h1,h2⟩:=findS_is hk;refine⟨mo,rfl,?_⟩;rcases mem_ofM h1 with⟨g,hg,e⟩|⟨x,hx,e⟩
    ·exact .inl ⟨g,hg,e,by rw [← h2,e];rfl⟩
    ·exact .inr ⟨x,hx,e,by rw [← h2,e];rfl⟩
theorem find_near {M:Ms} {m:Mod} {lo:List Nm} {p:Nat} {n:Nm} {s:Sy} (h : (envOf M m lo).find p [] n = .is s) : n∈lo∧s.args = -1∧s.len=0∨n∉lo∧((∃ g∈m.vars,s=⟨n,g.len,-1⟩∧g.name=n) ∨ ∃ x∈m.procs,s=⟨n,0,x.params.length⟩∧x.name=n):=by
 unfold Env.find at h
 rw [if_neg (by simp)] at h
 change (if n∈lo then Got.is ⟨n,0,-1⟩ else match m.vars.find? fun g=>g.name == n with
  | some g=>.is ⟨n,g.len,-1⟩
  | none=>match m.procs.find? fun x=>x.name == n with
   | some x=>.is ⟨n,0,x.params.length⟩
   | none=>.bad 7 p)=Got.is s at h
 by_cases hl : n∈lo
 ·rw [if_pos hl] at h;cases h;exact .inl ⟨hl,rfl,rfl⟩
 ·rw [if_neg hl] at h
  refine .inr ⟨hl,?_⟩;split at h
  ·next g hg=>cases h;exact .inl ⟨g,List.mem_of_find?_eq_some hg,rfl,by simpa using List.find?_some hg⟩
  ·split at h
   ·next x hx=>cases h;exact .inr ⟨x,List.mem_of_find?_eq_some hx,rfl,by simpa using List.find?_some hx⟩
   ·cases h
theorem nameL_none {c:Env} {p:Nat} {m n:Nm} {f:Sy→Go.Mq.Check.Look} (h : nameL c p m n f=none) : ∃ s,c.find p m n = .is s∧f s=none:=by
 unfold nameL at h
 cases hf : c.find p m n with
 | bad e q=>rw [hf] at h;cases h
 | is s=>rw [hf] at h;exact⟨s,rfl,h⟩
theorem where_nil (q:Nm) : where_ q []=q:=if_pos rfl
theorem where_far {q m:Nm} (h : m≠[]) : where_ q m=m:=if_neg h
theorem procs_nodup {M:Ms} (hM:OkM M) {q:Nm} {m:Mod} (hq:M q=some m) : (m.procs.map (·.name)).Nodup:=(List.nodup_append.1 ((check_fine _ _).1 (hM.fine q m hq)).2.1).2.1
theorem find_nodup {l:List Proc} (h : (l.map (·.name)).Nodup) {x:Proc} (hx : x∈l) : l.find? (fun p=>p.name == x.name)=some x:=by
 induction l with
 | nil=>cases hx
 | cons y r ih=>
  rw [List.map_cons,List.nodup_cons] at h;rw [List.find?_cons];rcases List.mem_cons.1 hx with rfl|hx
  ·simp
  ·have : (y.name == x.name)=false:=by
    simp only [beq_eq_false_iff_ne];intro e;exact h.1 (e ▸ List.mem_map_of_mem hx)
   rw [this];exact ih h.2 hx
def Mono {α:Type} (f:Nat→O α):Prop:=∀ g g',g≤g'→Le (f g) (f g')
def Fin {α:Type} (f:Nat→O α):Prop:=∃ g,f g ≠ .stuck
theorem Le.of_ne {α:Type} {a b:O α} (h:Le a b) (k : a ≠ .stuck) : a=b:=h.resolve_left k
theorem Fin.bind {α β:Type} {f:Nat→O α} {k:Nat→α→St→O β} (hf:Mono f) (hk : ∀ a s,Mono (fun g=>k g a s)) (h:Fin f) (h2 : ∀ g a s,f g = .ok a s→Fin (fun g=>k g a s)):Fin (fun g=>(f g).bind (k g)):=by
 obtain⟨g,hg⟩:=h;cases ho : f g with
 | stuck=>exact absurd ho hg
 | stop w s=>exact⟨g,by simp [ho,O.bind]⟩
 | ok a s=>
  obtain⟨g2,hg2⟩:=h2 g a s ho;refine⟨max g g2,?_⟩;have e1:=(hf g (max g g2) (Nat.le_max_left _ _)).of_ne hg;have e2:=(hk a s g2 (max g g2) (Nat.le_max_right _ _)).of_ne hg2
  show (f (max g g2)).bind _≠_
  rw [← e1,ho]
  show k (max g g2) a s≠_
  simp only at e2;rw [← e2];exact hg2
theorem Fin.const {α:Type} {o:O α} (h : o ≠ .stuck):Fin (fun _=>o):=⟨0,h⟩
theorem Mono.const {α:Type} (o:O α):Mono (fun _=>o):=fun _ _ _=>.refl _
theorem mono_e (M:Ms) (d:Nat) (q:Nm) (fr:Fr) (x:E) (s:St):Mono fun g=>(fns M g).e d q fr x s:=fun _ _ h=>(fns_le M h).e d q fr x s
theorem mono_es (M:Ms) (d:Nat) (q:Nm) (fr:Fr) (x:E) (s:St):Mono fun g=>(fns M g).es d q fr x s:=fun _ _ h=>(fns_le M h).es d q fr x s
theorem mono_c (M:Ms) (d:Nat) (q:Nm) (p:Proc) (a:List Int) (s:St):Mono fun g=>(fns M g).c d q p a s:=fun _ _ h=>(fns_le M h).c d q p a s
theorem mono_b (M:Ms) (d:Nat) (q:Nm) (fr:Fr) (x:S) (s:St):Mono fun g=>(fns M g).b d q fr x s:=fun _ _ h=>(fns_le M h).b d q fr x s
theorem mono_l (M:Ms) (d:Nat) (q:Nm) (fr:Fr) (v:E) (t:S) (s:St):Mono fun g=>(fns M g).l d q fr v t s:=fun _ _ h=>(fns_le M h).l d q fr v t s
theorem Mono.bind {α β:Type} {f:Nat→O α} {k:Nat→α→St→O β} (hf:Mono f) (hk : ∀ a s,Mono (fun g=>k g a s)):Mono fun g=>(f g).bind (k g):=fun g g' h=>(hf g g' h).bind fun a s=>hk a s g g' h
theorem Fin.succ {α:Type} {f h:Nat→O α} (k:Fin f) (e : ∀ g,h (g + 1)=f g):Fin h:=by
 obtain⟨g,hg⟩:=k;exact⟨g + 1,by rw [e];exact hg⟩
theorem al_ok {M:Ms} {g d:Nat} {q:Nm} {fr:Fr} {x:E} {s s':St} {n:Int} (h : (fns M g).e d q fr x s = .ok n s') : s'.fuel≤s.fuel ∧ ∀ q n,(s'.vs q n).map List.length=(s.vs q n).map List.length:=by
 have h1:=(along keeps_fuel M g).e d q fr x s;have h2:=(along keeps_shape M g).e d q fr x s;rw [h] at h1 h2;exact⟨h1,h2⟩
theorem als_ok {M:Ms} {g d:Nat} {q:Nm} {fr:Fr} {x:E} {s s':St} {n:List Int} (h : (fns M g).es d q fr x s = .ok n s') : s'.fuel≤s.fuel ∧ ∀ q n,(s'.vs q n).map List.length=(s.vs q n).map List.length:=by
 have h1:=(along keeps_fuel M g).es d q fr x s;have h2:=(along keeps_shape M g).es d q fr x s;rw [h] at h1 h2;exact⟨h1,h2⟩
theorem alb_ok {M:Ms} {g d:Nat} {q:Nm} {fr:Fr} {x:S} {s s':St} {n:Fl × Fr} (h : (fns M g).b d q fr x s = .ok n s') : s'.fuel≤s.fuel ∧ ∀ q n,(s'.vs q n).map List.length=(s.vs q n).map List.length:=by
 have h1:=(along keeps_fuel M g).b d q fr x s;have h2:=(along keeps_shape M g).b d q fr x s;rw [h] at h1 h2;exact⟨h1,h2⟩
theorem es_len (M:Ms) : ∀ (g d:Nat) (q:Nm) (fr:Fr) (x:E) (s s':St) (l:List Int),(fns M g).es d q fr x s = .ok l s'→l.length=argsN x
 | 0,_,_,_,_,_,_,_,h=>by cases h
 | g + 1,d,q,fr,x,s,s',l,h=>by
  change stepEs (fns M g) d q fr x s=_ at h
  cases x with
  | nil=>cases h;rfl
  | cons x r=>
   change ((fns M g).e d q fr x s).bind (fun n s=>((fns M g).es d q fr r s).bind fun l s=>.ok (n :: l) s)=_ at h
   cases h1 : (fns M g).e d q fr x s with
   | stuck=>rw [h1] at h;cases h
   | stop w s=>rw [h1] at h;cases h
   | ok n s1=>
    rw [h1] at h
    change ((fns M g).es d q fr r s1).bind (fun l s=>.ok (n :: l) s)=_ at h
    cases h2 : (fns M g).es d q fr r s1 with
    | stuck=>rw [h2] at h;cases h
    | stop w s=>rw [h2] at h;cases h
    | ok l2 s2=>
     rw [h2] at h;cases h
     have:=es_len M g d q fr r s1 _ l2 h2;simp [argsN,this]
  | num _ _=>cases h
  | var _ _ _=>cases h
  | item _ _ _ _=>cases h
  | un _ _ _=>cases h
  | bin _ _ _ _=>cases h
  | app _ _ _ _=>cases h
def SameF (fr fr':Fr):Prop:=∀ n,(getF fr' n).isSome=(getF fr n).isSome
theorem SameF.trans {a b c:Fr} (h:SameF a b) (k:SameF b c):SameF a c:=fun n=>(k n).trans (h n)
def KeepF (fr:Fr):O (Fl × Fr)→Prop
 | .ok x _=>SameF fr x.2
 | _=>True
theorem KeepF.bind {α:Type} {fr:Fr} {o:O α} {f : α→St→O (Fl × Fr)} (k : ∀ a s,KeepF fr (f a s)):KeepF fr (o.bind f):=by
 cases o with
 | ok a s=>exact k a s
 | stop w s=>trivial
 | stuck=>trivial
theorem KeepF.bindF {fr:Fr} {o:O (Fl × Fr)} {f:Fl × Fr→St→O (Fl × Fr)} (h:KeepF fr o) (k : ∀ x s,SameF fr x.2→KeepF x.2 (f x s)):KeepF fr (o.bind f):=by
 cases o with
 | ok a s=>
  have:=k a s h
  show KeepF fr (f a s)
  cases hf : f a s with
  | ok x s=>rw [hf] at this;exact SameF.trans h this
  | stop w s=>trivial
  | stuck=>trivial
 | stop w s=>trivial
 | stuck=>trivial
theorem keep_set (q:Nm) (fr:Fr) (n:Nm) (k v:Int) (s:St):KeepF fr (setO q fr n k v s):=by
 unfold setO
 cases hg : getF fr n with
 | some u=>
  intro j
  show (getF (putF fr n v) j).isSome=_
  rw [getF_put];split
  ·next e=>subst e;simp [hg]
  ·rfl
 | none=>
  simp only;split
  ·trivial
  ·split
   ·exact fun _=>rfl
   ·trivial
theorem keep_all (M:Ms) : ∀ g,(∀ d q fr x s,KeepF fr ((fns M g).b d q fr x s)) ∧ ∀ d q fr v t s,KeepF fr ((fns M g).l d q fr v t s)
 | 0=>⟨fun _ _ _ _ _=>trivial,fun _ _ _ _ _ _=>trivial⟩
 | g + 1=>by
  obtain⟨hb,hl⟩:=keep_all M g;refine⟨fun d q fr x s=>?_,fun d q fr v t s=>?_⟩
  ·show KeepF fr (stepB (fns M g) d q fr x s)
   unfold stepB
   split
   ·exact fun _=>rfl
   ·unfold andThen
    refine KeepF.bindF ?_ fun x s h=>?_
    ·cases x with
     | nil=>trivial
     | set p n i v r=>exact KeepF.bind fun _ _=>KeepF.bind fun _ _=>KeepF.bind fun _ _=>keep_set _ _ _ _ _ _
     | ifs p v t e r=>exact KeepF.bind fun _ _=>KeepF.bind fun n _=>by split <;> exact hb _ _ _ _ _
     | whil p v t r=>exact KeepF.bind fun _ _=>hl _ _ _ _ _ _
     | ret p v r=>exact KeepF.bind fun _ _=>KeepF.bind fun _ _=>fun _=>rfl
     | wri p v r=>exact KeepF.bind fun _ _=>KeepF.bind fun _ _=>by split;trivial;exact fun _=>rfl
     | call p v r=>exact KeepF.bind fun _ _=>KeepF.bind fun _ _=>fun _=>rfl
    ·split
     ·exact hb _ _ _ _ _
     ·exact fun _=>rfl
  ·show KeepF fr (stepL (fns M g) d q fr v t s)
   refine KeepF.bind fun n s=>?_
   split
   ·exact fun _=>rfl
   ·refine KeepF.bindF (hb _ _ _ _ _) fun x s h=>?_
    split
    ·exact KeepF.bind fun _ _=>hl _ _ _ _ _ _
    ·exact fun _=>rfl
theorem Loc.same {lo:List Nm} {fr fr':Fr} (h:Loc lo fr) (k:SameF fr fr'):Loc lo fr':=fun n=>by rw [h n,k n]
theorem loc_b {M:Ms} {g d:Nat} {q:Nm} {fr:Fr} {x:S} {s s':St} {r:Fl × Fr} {lo:List Nm} (hl:Loc lo fr) (h : (fns M g).b d q fr x s = .ok r s'):Loc lo r.2:=by
 have:=(keep_all M g).1 d q fr x s;rw [h] at this;exact hl.same this
theorem al_stmt {R:St→St→Prop} (K:Keeps R) {F:Fns} (h:AlF R F) (d:Nat) (q:Nm) (fr:Fr) (x:S) (s:St):Al R s (stmtO F d q fr x s):=by
 cases x with
 | nil=>trivial
 | set p n i v r=>
  refine Al.bind K (al_tick K _) fun _ s'=>Al.bind K ?_ fun k s'=>Al.bind K (h.e _ _ _ _ _) fun v s'=>al_set K _ _ _ _ _ _
  cases i with
  | none=>exact K.refl s'
  | some i=>exact h.e _ _ _ _ _
 | ifs p v t e r=>
  refine Al.bind K (al_tick K _) fun _ s'=>Al.bind K (h.e _ _ _ _ _) fun n s'=>?_
  split
  ·exact h.b _ _ _ _ _
  ·exact h.b _ _ _ _ _
 | whil p v t r=>exact Al.bind K (al_tick K _) fun _ s'=>h.l _ _ _ _ _ _
 | ret p v r=>exact Al.bind K (al_tick K _) fun _ s'=>Al.bind K (h.e _ _ _ _ _) fun _ s'=>K.refl s'
 | wri p v r=>
  refine Al.bind K (al_tick K _) fun _ s'=>Al.bind K (h.e _ _ _ _ _) fun n s'=>?_
  split
  ·exact K.refl s'
  ·exact K.out _ _ ‹_›
 | call p v r=>exact Al.bind K (al_tick K _) fun _ s'=>Al.bind K (h.e _ _ _ _ _) fun _ s'=>K.refl s'
theorem keep_stmt (M:Ms) (g d:Nat) (q:Nm) (fr:Fr) (x:S) (s:St):KeepF fr (stmtO (fns M g) d q fr x s):=by
 obtain⟨hb,hl⟩:=keep_all M g;cases x with
 | nil=>trivial
 | set p n i v r=>exact KeepF.bind fun _ _=>KeepF.bind fun _ _=>KeepF.bind fun _ _=>keep_set _ _ _ _ _ _
 | ifs p v t e r=>exact KeepF.bind fun _ _=>KeepF.bind fun n _=>by split <;> exact hb _ _ _ _ _
 | whil p v t r=>exact KeepF.bind fun _ _=>hl _ _ _ _ _ _
 | ret p v r=>exact KeepF.bind fun _ _=>KeepF.bind fun _ _=>fun _=>rfl
 | wri p v r=>exact KeepF.bind fun _ _=>KeepF.bind fun _ _=>by split;trivial;exact fun _=>rfl
 | call p v r=>exact KeepF.bind fun _ _=>KeepF.bind fun _ _=>fun _=>rfl
theorem stmt_al {M:Ms} {g d:Nat} {q:Nm} {fr:Fr} {x:S} {s s':St} {r:Fl × Fr} (h : stmtO (fns M g) d q fr x s = .ok r s') : s'.fuel≤s.fuel∧(∀ q n,(s'.vs q n).map List.length=(s.vs q n).map List.length)∧SameF fr r.2:=by
 have h1:=al_stmt keeps_fuel (along keeps_fuel M g) d q fr x s;have h2:=al_stmt keeps_shape (along keeps_shape M g) d q fr x s;have h3:=keep_stmt M g d q fr x s;rw [h] at h1 h2 h3;exact⟨h1,h2,h3⟩
end Go.Mq.Run
namespace Go.Mq.Run
open Go Go.RowKit Go.Mq Go.Mq.Tree Go.Mq.Sym
open Go.Mq.Check (Env Got exprL bodyL procL procsL nameL argsN check Out check_fine onceL_none FewM procsL_none)
theorem fold_put {α:Type} (k : α→Nm) (v : α→Int) (n:Nm) : ∀ (l:List α) (fr:Fr),(getF (l.foldl (fun f x=>putF f (k x) (v x)) fr) n).isSome↔n∈l.map k∨(getF fr n).isSome
 | [],fr=>by simp
 | x :: r,fr=>by
  rw [List.foldl_cons,fold_put k v n r,getF_put,List.map_cons,List.mem_cons];by_cases h : k x=n
  ·simp [h]
  ·simp [h,Ne.symm h]
theorem loc_frame {p:Proc} {args:List Int} (h : p.params.length≤args.length):Loc (p.params ++ p.vars) (frame p args):=fun n=>by
 unfold frame
 rw [fold_put (fun n=>n) (fun _=>0),fold_put (fun(x:Nm × Int)=>x.1) (fun x=>x.2),List.map_id',List.map_fst_zip h,List.mem_append];simp [getF,or_comm]
structure Safe (M:Ms) (N k:Nat):Prop where
 e : ∀ d q m lo fr x s,M q=some m→30≤d + k→d≤30→s.fuel≤N→Loc lo fr→Shape M s.vs→WF x→x.isX→exprL (envOf M m lo) x=none→Fin fun g=>(fns M g).e d q fr x s
 b : ∀ d q m lo fr x s dd,M q=some m→30≤d + k→d≤30→s.fuel≤N→Loc lo fr→Shape M s.vs→WFS dd x→bodyL (envOf M m lo) x=none→Fin fun g=>(fns M g).b d q fr x s
 l : ∀ d q m lo fr v t s dd,M q=some m→30≤d + k→d≤30→s.fuel≤N→Loc lo fr→Shape M s.vs→WF v→v.isX→exprL (envOf M m lo) v=none→WFS dd t→bodyL (envOf M m lo) t=none→Fin fun g=>(fns M g).l d q fr v t s
def SafeC (M:Ms) (N k:Nat):Prop:=∀ d q m p args s,M q=some m→p∈m.procs→p.params.length≤args.length→30≤d + k→d≤30→s.fuel≤N→Shape M s.vs→Fin fun g=>(fns M g).c d q p args s
section
variable {M:Ms} (hM:OkM M)
include hM
theorem proc_ok {q:Nm} {m:Mod} (hq:M q=some m) {p:Proc} (hp : p∈m.procs) : bodyL (envOf M m (p.params ++ p.vars)) p.body=none∧WFS 10 p.body:=by
 have h1:=((check_fine _ _).1 (hM.fine q m hq)).2.2.1 p hp
 unfold procL at h1
 exact⟨(Option.or_eq_none_iff.1 h1).2,((hM.good q m hq).1.wf.procs p hp).body⟩
theorem safe_c {N k:Nat} (h : ∀ k',k=k' + 1→Safe M N k'):SafeC M N k:=fun d q m p args s hq hp ha hk hd hf hs=>by
 refine Fin.succ (f:=fun g=>stepC (fns M g) d q p args s) ?_ fun _=>rfl
 by_cases hd30 : d=30
 ·refine⟨0,?_⟩
  show stepC (fns M 0) d q p args s≠_
  unfold stepC;rw [if_pos hd30];intro h;cases h
 ·obtain⟨k',rfl⟩ : ∃ k',k=k' + 1:=⟨k - 1,by omega⟩
  obtain⟨h1,h2⟩:=proc_ok hM hq hp;have hb:=(h k' rfl).b (d + 1) q m _ (frame p args) p.body s 10 hq (by omega) (by omega) hf (loc_frame ha) hs h2 h1;have e : (fun g=>stepC (fns M g) d q p args s)=fun g=>((fns M g).b (d + 1) q (frame p args) p.body s).bind fun r s=>.ok (match r.1 with | .go=>0 | .ret n=>n) s:=by
   funext g;unfold stepC;rw [if_neg hd30,if_neg (by omega)];rfl
  rw [e];exact Fin.bind (mono_b M _ _ _ _ _) (fun _ _=>Mono.const _) hb fun g a s' _=>.const (by intro h;cases h)
theorem safe_e {N k:Nat} (hc:SafeC M N k) (d:Nat) (q:Nm) (m:Mod) (lo:List Nm) (fr:Fr) (hq:M q=some m) (hk : 30≤d + k) (hd : d≤30) (hl:Loc lo fr) (x:E) : ∀ s,s.fuel≤N→Shape M s.vs→WF x→exprL (envOf M m lo) x=none→(x.isX→Fin fun g=>(fns M g).e d q fr x s)∧(x.isL→Fin fun g=>(fns M g).es d q fr x s):=by
 induction x with
 | num p n=>exact fun s _ _ _ _=>⟨fun _=>Fin.succ (f:=fun _=>.ok n s) (.const (by intro h;cases h)) fun _=>rfl,fun h=>h.elim⟩
 | nil=>exact fun s _ _ _ _=>⟨fun h=>h.elim,fun _=>Fin.succ (f:=fun _=>.ok [] s) (.const (by intro h;cases h)) fun _=>rfl⟩
 | var p mm n=>
  refine fun s hf hs hw hx=>⟨fun _=>?_,fun h=>h.elim⟩
  rw [exprL] at hx;obtain⟨sy,h1,h2⟩:=nameL_none hx;have ha : ¬ (0≤sy.args∨0 < sy.len):=by
   intro h;rw [if_pos h] at h2;cases h2
  refine Fin.succ (f:=fun g=>stepE M (fns M g) d q fr (.var p mm n) s) ?_ fun _=>rfl
  by_cases hm : mm=[]
  ·subst hm
   rcases find_near h1 with⟨hlo,_⟩|⟨hlo,hg|⟨x,_,rfl,_⟩⟩
   ·obtain⟨v,hv⟩:=Option.isSome_iff_exists.1 ((hl n).1 hlo)
    exact⟨0,by simp [stepE,hv]⟩
   ·obtain⟨g,hg,_,hgn⟩:=hg
    have hn : getF fr n=none:=by
     cases hv : getF fr n with
     | none=>rfl
     | some v=>exact absurd ((hl n).2 (by simp [hv])) hlo
    obtain⟨l,hl1,hl2⟩:=hs q m hq g hg;rw [hgn] at hl1;have:=sizeG_pos g;cases l with
    | nil=>simp at hl2;omega
    | cons v r=>exact⟨0,by simp [stepE,hn,hl1,varO]⟩
   ·exact absurd (.inl (by simp)) ha
  ·obtain⟨_,mo,hmo,hg|⟨x,_,rfl,_⟩⟩:=find_far hm h1
   ·obtain⟨g,hg,_,hgn⟩:=hg
    obtain⟨l,hl1,hl2⟩:=hs mm mo hmo g hg;rw [hgn] at hl1;have:=sizeG_pos g;cases l with
    | nil=>simp at hl2;omega
    | cons v r=>exact⟨0,by simp [stepE,hm,hl1,varO]⟩
   ·exact absurd (.inl (by simp [procSy])) ha
 | item p mm n i ih=>
  refine fun s hf hs hw hx=>⟨fun _=>?_,fun h=>h.elim⟩
  rw [exprL] at hx;obtain⟨hx1,hx2⟩:=Option.or_eq_none_iff.1 hx;obtain⟨sy,h1,h2⟩:=nameL_none hx1;have hsome : (M (where_ q mm)).isSome=true:=by
   by_cases hm : mm=[]
   ·subst hm;rw [where_nil,hq];rfl
   ·obtain⟨_,mo,hmo,_⟩:=find_far hm h1
    rw [where_far hm,hmo];rfl
  refine Fin.succ (f:=fun g=>((fns M g).e d q fr i s).bind fun k s=>itemO (s.vs (where_ q mm) n) k s) ?_ fun g=>by
   show (if (M (where_ q mm)).isSome then _ else _)=_
   rw [if_pos hsome]
  refine Fin.bind (mono_e M _ _ _ _ _) (fun _ _=>Mono.const _) ((ih s hf hs hw.2.2.1 hx2).1 hw.2.2.2) fun g a s' _=>.const ?_
  unfold itemO
  split
  ·intro h;cases h
  ·split <;> (intro h;cases h)
 | un p op x ih=>
  refine fun s hf hs hw hx=>⟨fun _=>?_,fun h=>h.elim⟩
  rw [exprL] at hx;refine Fin.succ (f:=fun g=>((fns M g).e d q fr x s).bind fun n s=>.ok (if op=[45] then wr (-n) else one (n == 0)) s) ?_ fun g=>rfl
  exact Fin.bind (mono_e M _ _ _ _ _) (fun _ _=>Mono.const _) ((ih s hf hs hw.2.1 hx).1 hw.2.2) fun g a s' _=>.const (by intro h;cases h)
 | bin p op x y ih1 ih2=>
  refine fun s hf hs hw hx=>⟨fun _=>?_,fun h=>h.elim⟩
  rw [exprL] at hx;obtain⟨hx1,hx2⟩:=Option.or_eq_none_iff.1 hx;refine Fin.succ (f:=fun g=>((fns M g).e d q fr x s).bind fun a s=>
   if op=[97,110,100]∨op=[111,114] then
    if (a != 0)=decide (op=[111,114]) then .ok (one (a != 0)) s else ((fns M g).e d q fr y s).bind fun b s=>.ok (one (b != 0)) s
   else ((fns M g).e d q fr y s).bind fun b s=>match both op a b with
    | some n=>.ok n s
    | none=>.stop 2 s) ?_ fun g=>rfl
  refine Fin.bind (mono_e M _ _ _ _ _) (fun a s=>?_) ((ih1 s hf hs hw.2.1.1 hx1).1 hw.2.1.2) fun g a s' hs'=>?_
  ·split
   ·split
    ·exact Mono.const _
    ·exact Mono.bind (mono_e M _ _ _ _ _) fun _ _=>Mono.const _
   ·exact Mono.bind (mono_e M _ _ _ _ _) fun _ _=>Mono.const _
  ·have ha:=al_ok hs'
   have hy:=(ih2 s' (by omega) (hs.al ha.2) hw.2.2.1 hx2).1 hw.2.2.2;split
   ·split
    ·exact .const (by intro h;cases h)
    ·exact Fin.bind (mono_e M _ _ _ _ _) (fun _ _=>Mono.const _) hy fun g a s' _=>.const (by intro h;cases h)
   ·exact Fin.bind (mono_e M _ _ _ _ _) (fun _ _=>Mono.const _) hy fun g a s' _=>.const (by split <;> (intro h;cases h))
 | cons x r ih1 ih2=>
  refine fun s hf hs hw hx=>⟨fun h=>h.elim,fun _=>?_⟩
  rw [exprL] at hx;obtain⟨hx1,hx2⟩:=Option.or_eq_none_iff.1 hx;refine Fin.succ (f:=fun g=>((fns M g).e d q fr x s).bind fun n s=>((fns M g).es d q fr r s).bind fun l s=>.ok (n :: l) s) ?_ fun g=>rfl
  refine Fin.bind (mono_e M _ _ _ _ _) (fun a s=>Mono.bind (mono_es M _ _ _ _ _) fun _ _=>Mono.const _) ((ih1 s hf hs hw.1.1 hx1).1 hw.1.2) fun g a s' hs'=>?_
  have ha:=al_ok hs';exact Fin.bind (mono_es M _ _ _ _ _) (fun _ _=>Mono.const _) ((ih2 s' (by omega) (hs.al ha.2) hw.2.1 hx2).2 hw.2.2) fun g a s' _=>.const (by intro h;cases h)
 | app p mm n l ih=>
  refine fun s hf hs hw hx=>⟨fun _=>?_,fun h=>h.elim⟩
  rw [exprL] at hx;obtain⟨hx1,hx2⟩:=Option.or_eq_none_iff.1 hx;obtain⟨sy,h1,h2⟩:=nameL_none hx1;have ha : 0≤sy.args:=by
   by_cases h : 0≤sy.args
   ·exact h
   ·rw [if_pos h] at h2;cases h2
  rw [if_neg (by simpa using ha)] at h2;have hn : (argsN l:Int)=sy.args:=by
   by_cases h : (argsN l:Int)≠sy.args
   ·rw [if_pos h] at h2;cases h2
   ·simpa using h
  obtain⟨mo,x,hmo,hxm,hxn,hxa⟩ : ∃ mo x,M (where_ q mm)=some mo∧x∈mo.procs∧x.name=n∧(x.params.length:Int)=sy.args:=by
   by_cases hm : mm=[]
   ·subst hm
    rw [where_nil];rcases find_near h1 with⟨_,h,_⟩|⟨_,⟨g,_,rfl,_⟩|⟨x,hx,rfl,hxn⟩⟩
    ·omega
    ·simp at ha
    ·exact⟨m,x,hq,hx,hxn,rfl⟩
   ·rw [where_far hm]
    obtain⟨_,mo,hmo,⟨g,_,rfl,_⟩|⟨x,hx,rfl,hxn⟩⟩:=find_far hm h1
    ·simp [varSy] at ha
    ·exact⟨mo,x,hmo,hx,hxn,rfl⟩
  have hfd:=find_nodup (procs_nodup hM hmo) hxm;rw [hxn] at hfd;refine Fin.succ (f:=fun g=>((fns M g).es d q fr l s).bind fun args s=>(fns M g).c d (where_ q mm) x args s) ?_ fun g=>by
   show (match M (where_ q mm) with
    | none=>O.stuck
    | some mo=>match mo.procs.find? fun(p:Proc)=>p.name == n with
     | none=>.stuck
     | some p=>((fns M g).es d q fr l s).bind fun args s=>(fns M g).c d (where_ q mm) p args s)=_
   rw [hmo];simp only;rw [hfd]
  refine Fin.bind (mono_es M _ _ _ _ _) (fun a s=>mono_c M _ _ _ _ _) ((ih s hf hs hw.2.2.1 hx2).2 hw.2.2.2) fun g a s' hs'=>?_
  have hal:=als_ok hs';have hlen:=es_len M _ _ _ _ _ _ _ _ hs';exact hc d (where_ q mm) mo x a s' hmo hxm (by omega) hk hd (by omega) (hs.al hal.2)
omit hM in
theorem tick_ne (s:St) : tick s ≠ .stuck:=by unfold tick;split <;> (intro h;cases h)
omit hM in
theorem tick_is {s s':St} {u:Unit} (h : tick s = .ok u s') : s.fuel≠0∧s'.fuel + 1=s.fuel∧s'.vs=s.vs:=by
 unfold tick at h
 split at h
 ·cases h
 ·cases h;exact⟨‹_›,by show s.fuel - 1 + 1=_;omega,rfl⟩
omit hM in
theorem set_ne (q:Nm) (fr:Fr) (n:Nm) (k v:Int) (s:St) : setO q fr n k v s ≠ .stuck:=by
 unfold setO
 split
 ·intro h;cases h
 ·split
  ·intro h;cases h
  ·split <;> (intro h;cases h)
omit hM in
theorem mono_stmt (M:Ms) (d:Nat) (q:Nm) (fr:Fr) (x:S) (s:St):Mono fun g=>stmtO (fns M g) d q fr x s:=by
 cases x with
 | nil=>exact Mono.const _
 | set p n i v r=>
  refine Mono.bind (Mono.const _) fun _ s=>Mono.bind ?_ fun _ _=>Mono.bind (mono_e M _ _ _ _ _) fun _ _=>Mono.const _
  cases i with
  | none=>exact Mono.const _
  | some i=>exact mono_e M _ _ _ _ _
 | ifs p v t e r=>exact Mono.bind (Mono.const _) fun _ s=>Mono.bind (mono_e M _ _ _ _ _) fun n s=>by split <;> exact mono_b M _ _ _ _ _
 | whil p v t r=>exact Mono.bind (Mono.const _) fun _ s=>mono_l M _ _ _ _ _ _
 | ret p v r=>exact Mono.bind (Mono.const _) fun _ s=>Mono.bind (mono_e M _ _ _ _ _) fun n s=>Mono.const _
 | wri p v r=>exact Mono.bind (Mono.const _) fun _ s=>Mono.bind (mono_e M _ _ _ _ _) fun n s=>Mono.const _
 | call p v r=>exact Mono.bind (Mono.const _) fun _ s=>Mono.bind (mono_e M _ _ _ _ _) fun n s=>Mono.const _
def SafeE (M:Ms) (N k:Nat):Prop:=∀ d q m lo fr x s,M q=some m→30≤d + k→d≤30→s.fuel≤N→Loc lo fr→Shape M s.vs→WF x→x.isX→exprL (envOf M m lo) x=none→Fin fun g=>(fns M g).e d q fr x s
omit hM in
theorem safe_b {N k:Nat} (he:SafeE M N k) (hN : ∀ N',N' < N→Safe M N' k) (d:Nat) (q:Nm) (m:Mod) (lo:List Nm) (hq:M q=some m) (hk : 30≤d + k) (hd : d≤30) (x:S) : ∀ fr s dd,s.fuel≤N→Loc lo fr→Shape M s.vs→WFS dd x→bodyL (envOf M m lo) x=none→Fin fun g=>(fns M g).b d q fr x s:=by
 have hgo : ∀ (x:S) (fr:Fr) (s:St),x.len≠0→s.fuel≤N→Loc lo fr→Shape M s.vs→(∀ fr s,s.fuel≤N→Loc lo fr→Shape M s.vs→Fin fun g=>(fns M g).b d q fr (rest x) s)→Fin (fun g=>stmtO (fns M g) d q fr x s)→Fin fun g=>(fns M g).b d q fr x s:=fun x fr s hn hf hl hs hr h=>by
  refine Fin.succ (f:=fun g=>(stmtO (fns M g) d q fr x s).bind fun y s=>match y.1 with
   | .go=>(fns M g).b d q y.2 (rest x) s
   | .ret n=>.ok (.ret n,y.2) s) ?_ fun g=>by
    show stepB (fns M g) d q fr x s=_
    unfold stepB
    rw [if_neg hn];rfl
  refine Fin.bind (mono_stmt M d q fr x s) (fun a s=>?_) h fun g a s' hs'=>?_
  ·cases a.1 with
   | go=>exact mono_b M _ _ _ _ _
   | ret n=>exact Mono.const _
  ·obtain⟨h1,h2,h3⟩:=stmt_al hs'
   cases a.1 with
   | go=>exact hr _ _ (by omega) (hl.same h3) (hs.al h2)
   | ret n=>exact .const (by intro h;cases h)
 have htick : ∀ (s:St) (k:Nat→Unit→St→O (Fl × Fr)),s.fuel≤N→Shape M s.vs→(∀ a s,Mono fun g=>k g a s)→(∀ s',s'.fuel < N→s'.fuel≤N→Shape M s'.vs→Fin fun g=>k g () s')→Fin fun g=>(tick s).bind (k g):=fun s k hf hs hm h=>by
  refine Fin.bind (f:=fun _=>tick s) (Mono.const _) hm (.const (tick_ne s)) fun g a s' hs'=>?_
  obtain⟨h1,h2,h3⟩:=tick_is hs';exact h s' (by omega) (by omega) (by rw [h3];exact hs)
 induction x with
 | nil=>exact fun fr s dd _ _ _ _ _=>Fin.succ (f:=fun _=>.ok (.go,fr) s) (.const (by intro h;cases h)) fun g=>rfl
 | set p n i v r ih=>
  intro fr s dd hf hl hs hw hx;have hx' : (∀ y,i=some y→exprL (envOf M m lo) y=none)∧exprL (envOf M m lo) v=none∧bodyL (envOf M m lo) r=none:=by
   cases i with
   | none=>
    rw [Go.Mq.Check.bodyL] at hx;obtain⟨h1,h2⟩:=Option.or_eq_none_iff.1 hx;exact⟨fun _ h=>(by cases h),(Option.or_eq_none_iff.1 h1).2,h2⟩
   | some y=>
    rw [Go.Mq.Check.bodyL,exprL] at hx;obtain⟨h1,h2⟩:=Option.or_eq_none_iff.1 hx;obtain⟨h3,h4⟩:=Option.or_eq_none_iff.1 h1;exact⟨fun _ h=>(by cases h;exact(Option.or_eq_none_iff.1 h3).2),h4,h2⟩
  obtain⟨hwn,hwi,hwv,hwr⟩:=hw;refine hgo _ fr s (by simp [S.len]) hf hl hs (fun fr s h1 h2 h3=>ih fr s dd h1 h2 h3 hwr hx'.2.2) ?_;refine htick s (fun g _ s=>(idxO (fns M g) d q fr i s).bind fun k s=>((fns M g).e d q fr v s).bind fun v s=>setO q fr n k v s) hf hs (fun _ s=>Mono.bind ?_ fun _ _=>Mono.bind (mono_e M _ _ _ _ _) fun _ _=>Mono.const _) fun s' _ hf' hs'=>?_
  ·cases i with
   | none=>exact Mono.const _
   | some i=>exact mono_e M _ _ _ _ _
  ·have hv : ∀ s,s.fuel≤N→Shape M s.vs→Fin fun g=>(fns M g).e d q fr v s:=fun s h1 h2=>he d q m lo fr v s hq hk hd h1 hl h2 hwv.1.1 hwv.1.2 hx'.2.1
   cases i with
   | none=>
    refine Fin.bind (f:=fun _=>.ok 0 s') (Mono.const _) (fun _ _=>Mono.bind (mono_e M _ _ _ _ _) fun _ _=>Mono.const _) (.const (by intro h;cases h)) fun g a s2 h2=>?_
    cases h2
    exact Fin.bind (mono_e M _ _ _ _ _) (fun _ _=>Mono.const _) (hv s' hf' hs') fun g a s3 _=>.const (set_ne _ _ _ _ _ _)
   | some i=>
    refine Fin.bind (mono_e M _ _ _ _ _) (fun _ _=>Mono.bind (mono_e M _ _ _ _ _) fun _ _=>Mono.const _) (he d q m lo fr i s' hq hk hd hf' hl hs' (hwi i rfl).1.1 (hwi i rfl).1.2 (hx'.1 i rfl)) fun g a s2 h2=>?_
    have ha:=al_ok h2;exact Fin.bind (mono_e M _ _ _ _ _) (fun _ _=>Mono.const _) (hv s2 (by omega) (hs'.al ha.2)) fun g a s3 _=>.const (set_ne _ _ _ _ _ _)
 | ifs p v t e r ih1 ih2 ih3=>
  intro fr s dd hf hl hs hw hx;rw [Go.Mq.Check.bodyL] at hx;obtain⟨h1,hxr⟩:=Option.or_eq_none_iff.1 hx;obtain⟨h2,hxe⟩:=Option.or_eq_none_iff.1 h1;obtain⟨hxv,hxt⟩:=Option.or_eq_none_iff.1 h2;obtain⟨hwv,⟨⟨_,hwt⟩,_,hwe⟩,hwr⟩:=hw;refine hgo _ fr s (by simp [S.len]) hf hl hs (fun fr s h1 h2 h3=>ih3 fr s dd h1 h2 h3 hwr hxr) ?_;refine htick s (fun g _ s=>((fns M g).e d q fr v s).bind fun n s=>if n=0 then (fns M g).b d q fr e s else (fns M g).b d q fr t s) hf hs (fun _ s=>Mono.bind (mono_e M _ _ _ _ _) fun n s=>by split <;> exact mono_b M _ _ _ _ _) fun s' _ hf' hs'=>?_
  refine Fin.bind (mono_e M _ _ _ _ _) (fun n s=>by split <;> exact mono_b M _ _ _ _ _) (he d q m lo fr v s' hq hk hd hf' hl hs' hwv.1.1 hwv.1.2 hxv) fun g a s2 h2=>?_
  have ha:=al_ok h2;split
  ·exact ih2 fr s2 _ (by omega) hl (hs'.al ha.2) hwe hxe
  ·exact ih1 fr s2 _ (by omega) hl (hs'.al ha.2) hwt hxt
 | whil p v t r ih1 ih2=>
  intro fr s dd hf hl hs hw hx;rw [Go.Mq.Check.bodyL] at hx;obtain⟨h1,hxr⟩:=Option.or_eq_none_iff.1 hx;obtain⟨hxv,hxt⟩:=Option.or_eq_none_iff.1 h1;obtain⟨hwv,⟨_,hwt⟩,hwr⟩:=hw;refine hgo _ fr s (by simp [S.len]) hf hl hs (fun fr s h1 h2 h3=>ih2 fr s dd h1 h2 h3 hwr hxr) ?_;refine htick s (fun g _ s=>(fns M g).l d q fr v t s) hf hs (fun _ s=>mono_l M _ _ _ _ _ _) fun s' hlt hf' hs'=>?_
  exact(hN s'.fuel hlt).l d q m lo fr v t s' _ hq hk hd (Nat.le_refl _) hl hs' hwv.1.1 hwv.1.2 hxv hwt hxt
 | ret p v r ih=>
  intro fr s dd hf hl hs hw hx;rw [Go.Mq.Check.bodyL] at hx;obtain⟨hxv,hxr⟩:=Option.or_eq_none_iff.1 hx;obtain⟨hwv,hwr⟩:=hw;refine hgo _ fr s (by simp [S.len]) hf hl hs (fun fr s h1 h2 h3=>ih fr s dd h1 h2 h3 hwr hxr) ?_;refine htick s (fun g _ s=>((fns M g).e d q fr v s).bind fun n s=>.ok (.ret n,fr) s) hf hs (fun _ s=>Mono.bind (mono_e M _ _ _ _ _) fun n s=>Mono.const _) fun s' _ hf' hs'=>?_
  exact Fin.bind (mono_e M _ _ _ _ _) (fun _ _=>Mono.const _) (he d q m lo fr v s' hq hk hd hf' hl hs' hwv.1.1 hwv.1.2 hxv) fun g a s2 _=>.const (by intro h;cases h)
 | wri p v r ih=>
  intro fr s dd hf hl hs hw hx;rw [Go.Mq.Check.bodyL] at hx;obtain⟨hxv,hxr⟩:=Option.or_eq_none_iff.1 hx;obtain⟨hwv,hwr⟩:=hw;refine hgo _ fr s (by simp [S.len]) hf hl hs (fun fr s h1 h2 h3=>ih fr s dd h1 h2 h3 hwr hxr) ?_;refine htick s (fun g _ s=>((fns M g).e d q fr v s).bind fun n s=>if s.out.length=200 then .stop 6 s else .ok (.go,fr) { s with out:=s.out ++ [n] }) hf hs (fun _ s=>Mono.bind (mono_e M _ _ _ _ _) fun n s=>Mono.const _) fun s' _ hf' hs'=>?_
  exact Fin.bind (mono_e M _ _ _ _ _) (fun _ _=>Mono.const _) (he d q m lo fr v s' hq hk hd hf' hl hs' hwv.1.1 hwv.1.2 hxv) fun g a s2 _=>.const (by split <;> (intro h;cases h))
 | call p v r ih=>
  intro fr s dd hf hl hs hw hx;rw [Go.Mq.Check.bodyL] at hx;obtain⟨hxv,hxr⟩:=Option.or_eq_none_iff.1 hx;obtain⟨⟨hwv,_⟩,hwr⟩:=hw;refine hgo _ fr s (by simp [S.len]) hf hl hs (fun fr s h1 h2 h3=>ih fr s dd h1 h2 h3 hwr hxr) ?_;refine htick s (fun g _ s=>((fns M g).e d q fr v s).bind fun _ s=>.ok (.go,fr) s) hf hs (fun _ s=>Mono.bind (mono_e M _ _ _ _ _) fun n s=>Mono.const _) fun s' _ hf' hs'=>?_
  exact Fin.bind (mono_e M _ _ _ _ _) (fun _ _=>Mono.const _) (he d q m lo fr v s' hq hk hd hf' hl hs' hwv.1.1 hwv.1.2 hxv) fun g a s2 _=>.const (by intro h;cases h)
theorem safe_step {N:Nat} (k:Nat) (hk : ∀ k',k=k' + 1→Safe M N k') (hN : ∀ N',N' < N → ∀ k,Safe M N' k):Safe M N k:=by
 have hc:=safe_c hM hk;have he:SafeE M N k:=fun d q m lo fr x s hq hk hd hf hl hs hw hx hxx=>(safe_e hM hc d q m lo fr hq hk hd hl x s hf hs hw hxx).1 hx
 have hb:=fun d q m lo fr x s dd hq h1 h2 h3 h4 h5 h6 h7=>safe_b (M:=M) he (fun N' h=>hN N' h k) d q m lo hq h1 h2 x fr s dd h3 h4 h5 h6 h7
 refine⟨he,hb,fun d q m lo fr v t s dd hq h1 h2 hf hl hs hwv hxv hcv hwt hct=>?_⟩;refine Fin.succ (f:=fun g=>((fns M g).e d q fr v s).bind fun n s=>
  if n=0 then .ok (.go,fr) s else ((fns M g).b d q fr t s).bind fun x s=>match x.1 with
   | .go=>(tick s).bind fun _ s=>(fns M g).l d q x.2 v t s
   | .ret n=>.ok (.ret n,x.2) s) ?_ fun g=>rfl
 have hmb : ∀ (x:Fl × Fr) (s:St),Mono fun g=>(match x.1 with
   | .go=>(tick s).bind fun _ s=>(fns M g).l d q x.2 v t s
   | .ret n=>.ok (.ret n,x.2) s:O (Fl × Fr)):=fun x s=>by
  cases x.1 with
  | go=>exact Mono.bind (Mono.const _) fun _ _=>mono_l M _ _ _ _ _ _
  | ret n=>exact Mono.const _
 refine Fin.bind (mono_e M _ _ _ _ _) (fun n s=>?_) (he d q m lo fr v s hq h1 h2 hf hl hs hwv hxv hcv) fun g n s1 hs1=>?_
 ·split
  ·exact Mono.const _
  ·exact Mono.bind (mono_b M _ _ _ _ _) hmb
 ·have ha:=al_ok hs1
  split
  ·exact .const (by intro h;cases h)
  ·refine Fin.bind (mono_b M _ _ _ _ _) hmb (hb d q m lo fr t s1 dd hq h1 h2 (by omega) hl (hs.al ha.2) hwt hct) fun g x s2 hs2=>?_
   have ha2:=alb_ok hs2;have hl2:=loc_b hl hs2;cases x.1 with
   | ret n=>exact .const (by intro h;cases h)
   | go=>
    refine Fin.bind (f:=fun _=>tick s2) (Mono.const _) (fun _ _=>mono_l M _ _ _ _ _ _) (.const (tick_ne s2)) fun g u s3 hs3=>?_
    obtain⟨k1,k2,k3⟩:=tick_is hs3;exact(hN s3.fuel (by omega) k).l d q m lo x.2 v t s3 dd hq h1 h2 (Nat.le_refl _) hl2 (by rw [k3];exact(hs.al ha.2).al ha2.2) hwv hxv hcv hwt hct
theorem safe (N:Nat) : ∀ k,Safe M N k:=by
 induction N using Nat.strongRecOn with
 | ind N ihN=>
  intro k
  induction k with
  | zero=>exact safe_step hM 0 (fun k' h=>by omega) ihN
  | succ k ih=>exact safe_step hM (k + 1) (fun k' h=>by have e : k=k':=(by omega);subst e;exact ih) ihN
end
end Go.Mq.Run
namespace Go.Mq.Run
open Go Go.RowKit Go.Mq Go.Mq.Tree Go.Mq.Sym
open Go.Mq.Check (Env Got exprL bodyL procL procsL nameL argsN check Out check_fine importsL importsL_some importsL_congr Look)
open Go.Mq.Used (touch useE useO useS useP useM usedL useE_short)
def RefE (g n:List UInt8):E→Prop
 | .num _ _=>False
 | .var _ a b=>a=g∧b=n
 | .item _ a b i=>(a=g∧b=n)∨RefE g n i
 | .un _ _ x=>RefE g n x
 | .bin _ _ x y=>RefE g n x∨RefE g n y
 | .app _ a b l=>(a=g∧b=n)∨RefE g n l
 | .nil=>False
 | .cons x r=>RefE g n x∨RefE g n r
def RefS (g n:List UInt8):S→Prop
 | .nil=>False
 | .set _ _ i v r=>(∃ x,i=some x∧RefE g n x)∨RefE g n v∨RefS g n r
 | .ifs _ v t e r=>RefE g n v∨RefS g n t∨RefS g n e∨RefS g n r
 | .whil _ v t r=>RefE g n v∨RefS g n t∨RefS g n r
 | .ret _ v r=>RefE g n v∨RefS g n r
 | .wri _ v r=>RefE g n v∨RefS g n r
 | .call _ v r=>RefE g n v∨RefS g n r
def RefM (g n:List UInt8) (m:Mod):Prop:=(∃ x∈m.procs,RefS g n x.body)∨RefS g n m.body
theorem mem_touch {g m n:List UInt8} {l:List (List UInt8)} (hg : g≠[]) (k:List UInt8) : k∈touch g m n l↔k∈l∨(m=g∧n=k):=by
 unfold touch
 split
 ·next h=>simp [h.1,eq_comm]
 ·next h=>
  constructor
  ·exact .inl
  ·rintro(h1|⟨h1,h2⟩)
   ·exact h1
   ·by_cases hk : n∈l
    ·exact h2 ▸ hk
    ·exact absurd ⟨h1,hg,hk⟩ h
theorem mem_useE {g:List UInt8} (hg : g≠[]) (k:List UInt8) (e:E) : ∀ l,k∈useE g e l↔k∈l∨RefE g k e:=by
 induction e with
 | num p n=>intro l;simp [useE,RefE]
 | var p a b=>intro l;simp only [useE,RefE,mem_touch hg]
 | item p a b i ih=>intro l;simp only [useE,RefE,ih,mem_touch hg,or_assoc]
 | un p op x ih=>intro l;simp only [useE,RefE,ih]
 | bin p op x y ih1 ih2=>intro l;simp only [useE,RefE,ih1,ih2,or_assoc]
 | app p a b l2 ih=>intro l;simp only [useE,RefE,ih,mem_touch hg,or_assoc]
 | nil=>intro l;simp [useE,RefE]
 | cons x r ih1 ih2=>intro l;simp only [useE,RefE,ih1,ih2,or_assoc]
theorem mem_useO {g:List UInt8} (hg : g≠[]) (k:List UInt8) (o:Option E) (l:List (List UInt8)) : k∈useO g o l↔k∈l ∨ ∃ x,o=some x∧RefE g k x:=by
 cases o with
 | none=>simp [useO]
 | some x=>simp [useO,mem_useE hg]
theorem mem_useS {g:List UInt8} (hg : g≠[]) (k:List UInt8) (s:S) : ∀ l,k∈useS g s l↔k∈l∨RefS g k s:=by
 induction s with
 | nil=>intro l;simp [useS,RefS]
 | set p n i v r ih=>intro l;simp only [useS,RefS,ih,mem_useE hg,mem_useO hg,or_assoc]
 | ifs p v t e r ih1 ih2 ih3=>intro l;simp only [useS,RefS,ih1,ih2,ih3,mem_useE hg,or_assoc]
 | whil p v t r ih1 ih2=>intro l;simp only [useS,RefS,ih1,ih2,mem_useE hg,or_assoc]
 | ret p v r ih=>intro l;simp only [useS,RefS,ih,mem_useE hg,or_assoc]
 | wri p v r ih=>intro l;simp only [useS,RefS,ih,mem_useE hg,or_assoc]
 | call p v r ih=>intro l;simp only [useS,RefS,ih,mem_useE hg,or_assoc]
theorem mem_useP {g:List UInt8} (hg : g≠[]) (k:List UInt8) : ∀ (ps:List Proc) (l:List (List UInt8)),k∈useP g ps l↔k∈l ∨ ∃ x∈ps,RefS g k x.body
 | [],l=>by simp [useP]
 | x :: r,l=>by
  have:=mem_useP hg k r (useS g x.body l)
  unfold useP at this ⊢
  rw [List.foldl_cons,this,mem_useS hg];simp [or_assoc]
theorem mem_used {g:List UInt8} (hg : g≠[]) (k:List UInt8) (m:Mod) : k∈usedL g m↔RefM g k m:=by
 rw [usedL,List.mem_mergeSort,useM,mem_useS hg,mem_useP hg,RefM];simp
structure SymEq (s s':Sy):Prop where
 proc : 0≤s.args↔0≤s'.args
 args : 0≤s.args→s.args=s'.args
 len : ¬ 0≤s.args→(0 < s.len↔0 < s'.len)
theorem SymEq.rfl (s:Sy):SymEq s s:=⟨Iff.rfl,fun _=>Eq.refl _,fun _=>Iff.rfl⟩
def Follows (a b:Got):Prop:=∀ s,a = .is s → ∃ s',b = .is s'∧SymEq s s'
theorem Follows.rfl (a:Got):Follows a a:=fun s h=>⟨s,h,.rfl s⟩
theorem nameL_follows {c c':Env} {p:Nat} {m n:List UInt8} {f:Sy→Look} (h:Follows (c.find p m n) (c'.find p m n)) (hf : ∀ s s',SymEq s s'→f s=none→f s'=none) (k : nameL c p m n f=none) : nameL c' p m n f=none:=by
 unfold nameL at k ⊢
 cases hc : c.find p m n with
 | bad e q=>rw [hc] at k;cases k
 | is s=>
  rw [hc] at k;obtain⟨s',h1,h2⟩:=h s hc;rw [h1];exact hf s s' h2 k
theorem var_f {p:Nat} (s s':Sy) (h:SymEq s s') (k : (if 0≤s.args∨0 < s.len then some (1,p) else none:Look)=none) : (if 0≤s'.args∨0 < s'.len then some (1,p) else none:Look)=none:=by
 split at k
 ·cases k
 ·next hn=>
  have h1 : ¬ 0≤s.args:=fun e=>hn (.inl e)
  rw [if_neg];rintro(e|e)
  ·exact h1 (h.proc.2 e)
  ·exact hn (.inr ((h.len h1).2 e))
theorem item_f {p:Nat} (s s':Sy) (h:SymEq s s') (k : (if 0≤s.args∨¬ 0 < s.len then some (1,p) else none:Look)=none) : (if 0≤s'.args∨¬ 0 < s'.len then some (1,p) else none:Look)=none:=by
 split at k
 ·cases k
 ·next hn=>
  have h1 : ¬ 0≤s.args:=fun e=>hn (.inl e)
  rw [if_neg];rintro(e|e)
  ·exact h1 (h.proc.2 e)
  ·exact hn (.inr fun e2=>e ((h.len h1).1 e2))
theorem app_f {p k:Nat} (s s':Sy) (h:SymEq s s') (hk : (if ¬ 0≤s.args then some (1,p) else if (k:Int)≠s.args then some (2,p) else none:Look)=none) : (if ¬ 0≤s'.args then some (1,p) else if (k:Int)≠s'.args then some (2,p) else none:Look)=none:=by
 split at hk
 ·cases hk
 ·next h1=>
  have h1 : 0≤s.args:=Classical.not_not.1 h1;rw [if_neg (Classical.not_not.2 (h.proc.1 h1)),← h.args h1];exact hk
theorem exprL_refs {c c':Env} : ∀ e,(∀ p m n,RefE m n e→Follows (c.find p m n) (c'.find p m n))→exprL c e=none→exprL c' e=none
 | .num _ _,_,_=>rfl
 | .var p m n,h,k=>by
  rw [exprL] at k ⊢;exact nameL_follows (h p m n ⟨rfl,rfl⟩) var_f k
 | .item p m n i,h,k=>by
  rw [exprL,Option.or_eq_none_iff] at k ⊢;exact⟨nameL_follows (h p m n (.inl ⟨rfl,rfl⟩)) item_f k.1,exprL_refs i (fun p m n hr=>h p m n (.inr hr)) k.2⟩
 | .un _ _ x,h,k=>by
  rw [exprL] at k ⊢;exact exprL_refs x (fun p m n hr=>h p m n hr) k
 | .bin _ _ x y,h,k=>by
  rw [exprL,Option.or_eq_none_iff] at k ⊢;exact⟨exprL_refs x (fun p m n hr=>h p m n (.inl hr)) k.1,exprL_refs y (fun p m n hr=>h p m n (.inr hr)) k.2⟩
 | .app p m n l,h,k=>by
  rw [exprL,Option.or_eq_none_iff] at k ⊢;exact⟨nameL_follows (h p m n (.inl ⟨rfl,rfl⟩)) app_f k.1,exprL_refs l (fun p m n hr=>h p m n (.inr hr)) k.2⟩
 | .nil,_,_=>rfl
 | .cons x r,h,k=>by
  rw [exprL,Option.or_eq_none_iff] at k ⊢;exact⟨exprL_refs x (fun p m n hr=>h p m n (.inl hr)) k.1,exprL_refs r (fun p m n hr=>h p m n (.inr hr)) k.2⟩
theorem bodyL_refs {c c':Env} (ho : ∀ p n,Follows (c.find p [] n) (c'.find p [] n)) (s:S) (h : ∀ p m n,RefS m n s→Follows (c.find p m n) (c'.find p m n)) (k : bodyL c s=none) : bodyL c' s=none:=by
 induction s with
 | nil=>rfl
 | set p n i v r ih=>
  cases i with
  | none=>
   rw [Go.Mq.Check.bodyL,Option.or_eq_none_iff,Option.or_eq_none_iff] at k ⊢;refine⟨⟨exprL_refs _ (fun p m n hr=>?_) k.1.1,exprL_refs v (fun p m n hr=>h p m n (.inr (.inl hr))) k.1.2⟩,ih (fun p m n hr=>h p m n (.inr (.inr hr))) k.2⟩;obtain⟨rfl,_⟩:=hr;exact ho _ _
  | some i=>
   rw [Go.Mq.Check.bodyL,Option.or_eq_none_iff,Option.or_eq_none_iff] at k ⊢;refine⟨⟨exprL_refs _ (fun p m n hr=>?_) k.1.1,exprL_refs v (fun p m n hr=>h p m n (.inr (.inl hr))) k.1.2⟩,ih (fun p m n hr=>h p m n (.inr (.inr hr))) k.2⟩;rcases hr with⟨rfl,_⟩|hr
   ·exact ho _ _
   ·exact h p m n (.inl ⟨i,rfl,hr⟩)
 | ifs p v t e r ih1 ih2 ih3=>
  rw [Go.Mq.Check.bodyL,Option.or_eq_none_iff,Option.or_eq_none_iff,Option.or_eq_none_iff] at k ⊢;exact⟨⟨⟨exprL_refs v (fun p m n hr=>h p m n (.inl hr)) k.1.1.1,ih1 (fun p m n hr=>h p m n (.inr (.inl hr))) k.1.1.2⟩,ih2 (fun p m n hr=>h p m n (.inr (.inr (.inl hr)))) k.1.2⟩,ih3 (fun p m n hr=>h p m n (.inr (.inr (.inr hr)))) k.2⟩
 | whil p v t r ih1 ih2=>
  rw [Go.Mq.Check.bodyL,Option.or_eq_none_iff,Option.or_eq_none_iff] at k ⊢;exact⟨⟨exprL_refs v (fun p m n hr=>h p m n (.inl hr)) k.1.1,ih1 (fun p m n hr=>h p m n (.inr (.inl hr))) k.1.2⟩,ih2 (fun p m n hr=>h p m n (.inr (.inr hr))) k.2⟩
 | ret p v r ih=>
  rw [Go.Mq.Check.bodyL,Option.or_eq_none_iff] at k ⊢;exact⟨exprL_refs v (fun p m n hr=>h p m n (.inl hr)) k.1,ih (fun p m n hr=>h p m n (.inr hr)) k.2⟩
 | wri p v r ih=>
  rw [Go.Mq.Check.bodyL,Option.or_eq_none_iff] at k ⊢;exact⟨exprL_refs v (fun p m n hr=>h p m n (.inl hr)) k.1,ih (fun p m n hr=>h p m n (.inr hr)) k.2⟩
 | call p v r ih=>
  rw [Go.Mq.Check.bodyL,Option.or_eq_none_iff] at k ⊢;exact⟨exprL_refs v (fun p m n hr=>h p m n (.inl hr)) k.1,ih (fun p m n hr=>h p m n (.inr hr)) k.2⟩
def symOf (seen:List UInt8→Option (List Sy)) (g n:List UInt8):Option Sy:=(findS ((seen g).getD []) n).map fun k=>((seen g).getD []).getD k Sy.none
theorem importsL_there {own:List UInt8} {seen seen':List UInt8→Option (List Sy)} : ∀ (l had:List (List UInt8)),(∀ n∈l,(seen' n).isSome)→importsL own seen had l=none→importsL own seen' had l=none
 | [],_,_,_=>rfl
 | x :: r,had,h,k=>by
  rw [importsL] at k ⊢;split at k
  ·cases k
  ·next h1=>
   rw [if_neg h1];split at k
   ·cases k
   ·have:=h x (by simp)
    rw [if_neg (by rw [Option.isNone_iff_eq_none];intro e;rw [e] at this;cases this)];exact importsL_there r _ (fun n hn=>h n (by simp [hn])) k
theorem check_refs {m:Mod} {seen seen':List UInt8→Option (List Sy)} (hs : ∀ n∈m.imports,(seen' n).isSome) (hr : ∀ g∈m.imports,g≠[] → ∀ n,RefM g n m → ∀ s,symOf seen g n=some s → ∃ s',symOf seen' g n=some s'∧SymEq s s') (h : check m seen = .fine) : check m seen' = .fine:=by
 rw [check_fine] at h ⊢;obtain⟨h1,h2,h3,h4⟩:=h;have hfind : ∀ (lo:List (List UInt8)) p g n,(g=[]∨RefM g n m)→Follows (Env.find ⟨m.imports,seen,lo,m.vars,m.procs⟩ p g n) (Env.find ⟨m.imports,seen',lo,m.vars,m.procs⟩ p g n):=fun lo p g n hg s hsm=>by
  by_cases hgn : g=[]
  ·subst hgn
   exact⟨s,hsm,.rfl s⟩
  ·have hg:=hg.resolve_left hgn
   unfold Env.find at hsm ⊢
   rw [if_pos hgn] at hsm ⊢;simp only at hsm ⊢;split at hsm
   ·cases hsm
   ·next hi=>
    rw [if_neg hi];have hi:=Classical.not_not.1 hi;cases hk : findS ((seen g).getD []) n with
    | none=>rw [hk] at hsm;cases hsm
    | some k=>
     rw [hk] at hsm;simp only at hsm;cases hsm
     obtain⟨s',h5,h6⟩:=hr g hi hgn n hg _ (by rw [symOf,hk];rfl)
     unfold symOf at h5
     cases hk' : findS ((seen' g).getD []) n with
     | none=>rw [hk'] at h5;cases h5
     | some k'=>
      rw [hk'] at h5;simp only [Option.map_some,Option.some.injEq] at h5;exact⟨s',by rw [← h5],h6⟩
 refine⟨importsL_there _ _ hs h1,h2,fun x hx=>?_,bodyL_refs (fun p n=>hfind _ p [] n (.inl rfl)) _ (fun p g n hr=>hfind _ p g n (.inr (.inr hr))) h4⟩;have:=h3 x hx;rw [procL,Option.or_eq_none_iff] at this ⊢;exact⟨this.1,bodyL_refs (fun p n=>hfind _ p [] n (.inl rfl)) _ (fun p g n hr=>hfind _ p g n (.inr (.inl ⟨x,hx,hr⟩))) this.2⟩
theorem line_split {a b r t:List UInt8} (ha : (10:UInt8)∉a) (hb : (10:UInt8)∉b) (h : a ++ 10 :: r=b ++ 10 :: t) : a=b∧r=t:=by
 induction a generalizing b with
 | nil=>
  cases b with
  | nil=>simpa using h
  | cons y b=>simp at h;exact absurd (by simp [← h.1]) hb
 | cons x a ih=>
  cases b with
  | nil=>simp at h;exact absurd (by simp [h.1]) ha
  | cons y b=>
   simp only [List.cons_append,List.cons.injEq] at h;obtain⟨h1,h2⟩:=ih (fun hm=>ha (List.mem_cons_of_mem _ hm)) (fun hm=>hb (List.mem_cons_of_mem _ hm)) h.2;exact⟨by rw [h.1,h1],h2⟩
def Line (t:List UInt8):Prop:=∃ u,t=u ++ [10]∧(10:UInt8)∉u
theorem flat_lines {α:Type} {f g : α→List UInt8} : ∀ {l:List α},(∀ x∈l,Line (f x)∧Line (g x))→l.flatMap f=l.flatMap g → ∀ x∈l,f x=g x
 | [],_,_=>by simp
 | x :: r,h,k=>by
  obtain⟨⟨u,hu,hu2⟩,v,hv,hv2⟩:=h x (by simp);rw [List.flatMap_cons,List.flatMap_cons,hu,hv] at k;simp only [List.append_assoc,List.singleton_append] at k;obtain⟨h1,h2⟩:=line_split hu2 hv2 k;intro y hy;rcases List.mem_cons.1 hy with rfl|hy
  ·rw [hu,hv,h1]
  ·exact flat_lines (fun x hx=>h x (by simp [hx])) h2 y hy
theorem wordy_no10 {l:List UInt8} (h : ∀ x∈l,wordy x=true) : (10:UInt8)∉l:=fun hm=>by
 have:=h _ hm;simp [wordy,letter,digit] at this
theorem nm_no10 {n:List UInt8} (h:Tree.Nm n) : (10:UInt8)∉n:=by
 obtain⟨⟨c,r,rfl,hc,hr⟩,_⟩:=h;refine wordy_no10 fun x hx=>?_
 rcases List.mem_cons.1 hx with rfl|hx
 ·simp [wordy,hc]
 ·exact hr x hx
theorem itoa_no10 {n:Int} (h : 0≤n) : (10:UInt8)∉Lib.itoa n:=by
 obtain⟨c,r,e,hc,hr⟩:=itoa_num h;rw [e];refine wordy_no10 fun x hx=>?_
 rcases List.mem_cons.1 hx with rfl|hx
 ·simp [wordy,hc]
 ·simp [wordy,hr x hx]
theorem itoa_inj {a b:Int} (ha : 0≤a) (ha2 : a≤9223372036854775807) (hb : 0≤b) (hb2 : b≤9223372036854775807) (h:Lib.itoa a=Lib.itoa b) : a=b:=by
 have h1:=itoa_parse ha ha2;have h2:=itoa_parse hb hb2;rw [h,h2] at h1;cases h1;rfl
end Go.Mq.Run
namespace Go.Mq.Run
open Go Go.RowKit Go.Mq Go.Mq.Tree Go.Mq.Sym
open Go.Mq.Check (Env Got exprL bodyL procL procsL nameL argsN check Out check_fine importsL importsL_some importsL_congr Look FewM)
open Go.Mq.Used (usedL usedL_short)
theorem line_kind {s s':Sy} (hf : s.fit) (hf' : s'.fit) (hn : s.name=s'.name) (h : lineT s=lineT s'):SymEq s s':=by
 rw [lineT,lineT,← hn] at h;by_cases h1 : 0≤s.args <;> by_cases h2 : 0≤s'.args
 ·rw [if_pos h1,if_pos h2] at h
  simp only [List.append_assoc] at h;have h:=List.append_cancel_left (List.append_cancel_left (List.append_cancel_left h));have h3:=(line_split (itoa_no10 h1) (itoa_no10 h2) (r:=[]) (t:=[]) h).1;have:=itoa_inj h1 (by have:=hf.args1;omega) h2 (by have:=hf'.args1;omega) h3;exact⟨by omega,fun _=>this,fun hn=>absurd h1 hn⟩
 ·rw [if_pos h1,if_neg h2] at h
  split at h <;> (simp at h)
 ·rw [if_neg h1,if_pos h2] at h
  split at h <;> (simp at h)
 ·rw [if_neg h1,if_neg h2] at h
  by_cases h3 : 0 < s.len <;> by_cases h4 : 0 < s'.len
  ·exact⟨by omega,fun e=>absurd e h1,fun _=>by omega⟩
  ·rw [if_pos h3,if_neg h4] at h;simp at h
  ·rw [if_neg h3,if_pos h4] at h;simp at h
  ·exact⟨by omega,fun e=>absurd e h1,fun _=>by omega⟩
theorem line_line {s:Sy} (h : (10:UInt8)∉s.name):Line (lineT s):=by
 rw [lineT];split
 ·next h1=>exact⟨[112,114,111,99,32] ++ s.name ++ [32] ++ Lib.itoa s.args,rfl,by have:=itoa_no10 h1;simp [h,this]⟩
 ·split
  ·next h1=>exact⟨[97,114,114,97,121,32] ++ s.name ++ [32] ++ Lib.itoa s.len,rfl,by have:=itoa_no10 (n:=s.len) (by omega);simp [h,this]⟩
  ·exact⟨[105,110,116,32] ++ s.name,rfl,by simp [h]⟩
theorem need_line {l:List Sy} {n:List UInt8} (h : (10:UInt8)∉n):Line (needT l n):=by
 rw [needT];cases hk : findS l n with
 | none=>exact⟨[110,111,110,101,32] ++ n,rfl,by simp [h]⟩
 | some k=>exact line_line (by rw [(findS_is hk).2];exact h)
theorem none_line {s:Sy} {n:List UInt8} : lineT s≠[110,111,110,101,32] ++ n ++ [10]:=by
 rw [lineT];split
 ·simp
 ·split <;> simp
theorem need_kind {l l':List Sy} (hl : ∀ s∈l,s.fit) (hl' : ∀ s∈l',s.fit) {n:List UInt8} (h : needT l n=needT l' n) {k:Nat} (hk : findS l n=some k) : ∃ k',findS l' n=some k'∧SymEq (l.getD k Sy.none) (l'.getD k' Sy.none):=by
 rw [needT,needT,hk] at h;simp only at h;cases hk' : findS l' n with
 | none=>rw [hk'] at h;exact absurd h none_line
 | some k'=>
  rw [hk'] at h;obtain⟨h1,h2⟩:=findS_is hk;obtain⟨h3,h4⟩:=findS_is hk';exact⟨k',rfl,line_kind (hl _ h1) (hl' _ h3) (by rw [h2,h4]) h⟩
theorem ofM_fit {m:Mod} (h:GoodM m) : ∀ s∈ofM m,s.fit:=seenL_fit h.wf.vars h.wf.procs
theorem refE_nm {g n:List UInt8} : ∀ {e:E},WF e→RefE g n e→Tree.Nm n
 | .num _ _,_,h=>h.elim
 | .var _ _ _,hw,h=>h.2 ▸ hw.2
 | .item _ _ _ i,hw,h=>by
  rcases h with h|h
  ·exact h.2 ▸ hw.2.1
  ·exact refE_nm hw.2.2.1 h
 | .un _ _ x,hw,h=>refE_nm (e:=x) hw.2.1 h
 | .bin _ _ x y,hw,h=>by
  rcases h with h|h
  ·exact refE_nm hw.2.1.1 h
  ·exact refE_nm hw.2.2.1 h
 | .app _ _ _ l,hw,h=>by
  rcases h with h|h
  ·exact h.2 ▸ hw.2.1
  ·exact refE_nm hw.2.2.1 h
 | .nil,_,h=>h.elim
 | .cons x r,hw,h=>by
  rcases h with h|h
  ·exact refE_nm hw.1.1 h
  ·exact refE_nm hw.2.1 h
theorem refS_nm {g n:List UInt8} {s:S} : ∀ {d:Nat},WFS d s→RefS g n s→Tree.Nm n:=by
 induction s with
 | nil=>intro d hw h;exact h.elim
 | set p m i v r ih=>
  intro d hw h;rcases h with⟨x,hx,h⟩|h|h
  ·exact refE_nm (hw.2.1 x hx).1.1 h
  ·exact refE_nm hw.2.2.1.1.1 h
  ·exact ih hw.2.2.2 h
 | ifs p v t e r ih1 ih2 ih3=>
  intro d hw h;rcases h with h|h|h|h
  ·exact refE_nm hw.1.1.1 h
  ·exact ih1 hw.2.1.1.2 h
  ·exact ih2 hw.2.1.2.2 h
  ·exact ih3 hw.2.2 h
 | whil p v t r ih1 ih2=>
  intro d hw h;rcases h with h|h|h
  ·exact refE_nm hw.1.1.1 h
  ·exact ih1 hw.2.1.2 h
  ·exact ih2 hw.2.2 h
 | ret p v r ih=>intro d hw h;rcases h with h|h;exact refE_nm hw.1.1.1 h;exact ih hw.2 h
 | wri p v r ih=>intro d hw h;rcases h with h|h;exact refE_nm hw.1.1.1 h;exact ih hw.2 h
 | call p v r ih=>intro d hw h;rcases h with h|h;exact refE_nm hw.1.1.1.1 h;exact ih hw.2 h
theorem refM_nm {g n:List UInt8} {m:Mod} (hw:WFM m) (h:RefM g n m):Tree.Nm n:=by
 rcases h with⟨x,hx,h⟩|h
 ·exact refS_nm (hw.procs x hx).body h
 ·exact refS_nm hw.body h
theorem check_swap {mq old m:Mod} {seen seen':List UInt8→Option (List Sy)} (hq:GoodM mq) (ho:GoodM old) (hm:GoodM m) (h1 : seen m.name=some (ofM old)) (h2 : seen' m.name=some (ofM m)) (h3 : ∀ g,g≠m.name→seen' g=seen g)
  (hn : needsT (ofM old) (usedL m.name mq)=needsT (ofM m) (usedL m.name mq)) (h : check mq seen = .fine) : check mq seen' = .fine:=by
 have hc:=(check_fine _ _).1 h;refine check_refs (fun g hg=>?_) (fun g hg hgn n hr s hs=>?_) h
 ·by_cases e : g=m.name
  ·rw [e,h2];rfl
  ·rw [h3 g e];exact importsL_some _ _ hc.1 g hg
 ·by_cases e : g=m.name
  ·subst e
   unfold symOf at hs ⊢
   rw [h1] at hs;rw [h2];simp only [Option.getD_some] at hs ⊢;cases hk : findS (ofM old) n with
   | none=>rw [hk] at hs;cases hs
   | some k=>
    rw [hk] at hs;cases hs
    have hlines : ∀ n∈usedL m.name mq,needT (ofM old) n=needT (ofM m) n:=flat_lines (fun x hx=>by
     have hx:=nm_no10 (refM_nm hq.wf ((mem_used hgn x mq).1 hx));exact⟨need_line hx,need_line hx⟩) hn
    obtain⟨k',hk',he⟩:=need_kind (ofM_fit ho) (ofM_fit hm) (hlines n ((mem_used hgn n mq).2 hr)) hk;exact⟨_,by rw [hk'];rfl,he⟩
  ·rw [symOf,h3 g e]
   exact⟨s,hs,.rfl s⟩
theorem check_imports {m:Mod} {seen seen':List UInt8→Option (List Sy)} (h : ∀ g∈m.imports,seen' g=seen g) : check m seen'=check m seen:=by
 have hb : ∀ lo s,bodyL ⟨m.imports,seen',lo,m.vars,m.procs⟩ s=bodyL ⟨m.imports,seen,lo,m.vars,m.procs⟩ s:=fun lo s=>Go.Mq.Check.bodyL_congr (Go.Mq.Check.find_seen h) s
 have hp : ∀ l,Go.Mq.Check.procsL m seen' l=Go.Mq.Check.procsL m seen l:=fun l=>by
  induction l with
  | nil=>rfl
  | cons x r ih=>rw [Go.Mq.Check.procsL,Go.Mq.Check.procsL,ih,procL,procL,hb]
 unfold check
 rw [importsL_congr _ _ h,hp,hb]
theorem imports_not_own {own:List UInt8} {seen:List UInt8→Option (List Sy)} : ∀ (l had:List (List UInt8)),importsL own seen had l=none→own∉l
 | [],_,_=>by simp
 | x :: r,had,h=>by
  rw [importsL] at h;split at h
  ·cases h
  ·next h1=>
   split at h
   ·cases h
   ·intro hm
    rcases List.mem_cons.1 hm with e|hm
    ·exact h1 (.inl e.symm)
    ·exact imports_not_own r _ h hm
def Imp (M:Ms) (a b:Nm):Prop:=∃ m,M b=some m∧a∈m.imports
inductive Reach (M:Ms):Nm→Nm→Prop where
 | refl (a:Nm):Reach M a a
 | step {a b c:Nm} : Imp M b a→Reach M b c→Reach M a c
structure Inv (W:Wd):Prop where
 ok:OkM W.M
 shape : ∀ q n,(W.vs q n).map List.length=((W.M q).bind fun m=>startF m.vars n).map List.length
 nodup:W.order.Nodup
 order : ∀ q,q∈W.order↔(W.M q).isSome
 few:W.order.length≤10
 acyc : ∀ q,Acc (Imp W.M) q
theorem Inv.zero:Inv Wd.zero:=⟨⟨fun _ _ h=>(by cases h),fun _ _ h=>(by cases h)⟩,fun _ _=>rfl,List.nodup_nil,fun _=>by simp [Wd.zero],by simp [Wd.zero],fun q=>⟨_,fun a ⟨_,h,_⟩=>by cases h⟩⟩
theorem rev_ind {α:Type} {P:List α→Prop} (h0:P []) (h1 : ∀ l x,P l→P (l ++ [x])) (l:List α):P l:=by
 have : ∀ l:List α,P l.reverse:=fun l=>by
  induction l with
  | nil=>exact h0
  | cons x r ih=>rw [List.reverse_cons];exact h1 _ _ ih
 have:=this l.reverse
 rwa [List.reverse_reverse] at this
theorem startF_is {l:List Glob} : ∀ (_ : (l.map (·.name)).Nodup) {g:Glob} (_ : g∈l),startF l g.name=some (zeros (sizeG g)):=by
 refine rev_ind (P:=fun l=>∀ (_ : (l.map (·.name)).Nodup) {g:Glob} (_ : g∈l),startF l g.name=some (zeros (sizeG g))) ?_ ?_ l
 ·intro _ g hg;cases hg
 ·intro l x ih h g hg
  rw [startF_snoc];rw [List.map_append,List.nodup_append] at h;rcases List.mem_append.1 hg with hg|hg
  ·have : x.name≠g.name:=fun e=>h.2.2 g.name (List.mem_map_of_mem hg) x.name (by simp) e.symm
   simp only [if_neg this];exact ih h.1 hg
  ·simp at hg;subst hg;simp
theorem vars_nodup {M:Ms} (hM:OkM M) {q:Nm} {m:Mod} (hq:M q=some m) : (m.vars.map (·.name)).Nodup:=(List.nodup_append.1 ((check_fine _ _).1 (hM.fine q m hq)).2.1).1
theorem Inv.shaped {W:Wd} (h:Inv W):Shape W.M W.vs:=fun q m hq g hg=>by
 have:=h.shape q g.name;rw [hq] at this;simp only [Option.bind_some,startF_is (vars_nodup h.ok hq) hg,Option.map_some] at this;cases hv:W.vs q g.name with
 | none=>rw [hv] at this;cases this
 | some l=>rw [hv] at this;simp [zeros] at this;exact⟨l,rfl,this⟩
end Go.Mq.Run
namespace Go.Mq.Run
open Go Go.RowKit Go.Mq Go.Mq.Tree Go.Mq.Sym
open Go.Mq.Check (Env Got exprL bodyL procL procsL nameL argsN check Out check_fine importsL importsL_some importsL_congr Look FewM)
open Go.Mq.Used (usedL usedL_short)
open Classical
def keptB (old m:Mod) (n:Nm):Bool:=m.vars.any fun g=>g.name == n && old.vars.any fun h=>h.name == n && h.len == g.len
def swapV (vs:Vs) (old m:Mod):Vs:=fun q n=>if q=m.name then (if keptB old m n then vs q n else startF m.vars n) else vs q n
noncomputable def swapW (W:Wd) (m:Mod):Wd × Out:=match W.M m.name with
 | none=>(W,.plain 7)
 | some old=>match check m (seenOf W.M) with
  | .fine=>
   if ∃ n∈m.imports,Reach W.M n m.name then (W,.plain 11)
   else if ∃ n∈W.order,∃ mn,W.M n=some mn∧needsT (ofM old) (usedL m.name mn)≠needsT (ofM m) (usedL m.name mn) then (W,.plain 6)
   else (⟨setM W.M m,swapV W.vs old m,W.order⟩,.fine)
  | o=>(W,o)
def callW (g:Nat) (W:Wd) (q n:Nm) (args:List Int) (fuel:Nat):Option (Wd × Nat × List Int × Int × Out):=match W.M q with
 | none=>some (W,0,[],0,.plain 7)
 | some m=>match m.procs.find? fun p=>p.name == n && p.seen with
  | none=>some (W,0,[],0,.plain 7)
  | some p=>if args.length≠p.params.length then some (W,0,[],0,.plain 2) else
   match (fns W.M g).c 0 q p args ⟨fuel,[],W.vs⟩ with
   | .stuck=>none
   | .ok n s=>some (⟨W.M,s.vs,W.order⟩,1,s.out,n,.fine)
   | .stop way s=>some (⟨W.M,s.vs,W.order⟩,way,s.out,0,.fine)
theorem setM_own (M:Ms) (m:Mod) : setM M m m.name=some m:=if_pos rfl
theorem setM_other (M:Ms) (m:Mod) {q:Nm} (h : q≠m.name) : setM M m q=M q:=if_neg h
theorem seenOf_set (M:Ms) (m:Mod) (q:Nm) : seenOf (setM M m) q=if q=m.name then some (ofM m) else seenOf M q:=by
 unfold seenOf setM
 split <;> rfl
theorem shape_al {M:Ms} {vs vs':Vs} (h : ∀ q n,(vs q n).map List.length=((M q).bind fun m=>startF m.vars n).map List.length) (k : ∀ q n,(vs' q n).map List.length=(vs q n).map List.length) : ∀ q n,(vs' q n).map List.length=((M q).bind fun m=>startF m.vars n).map List.length:=fun q n=>(k q n).trans (h q n)
theorem Inv.vals {W:Wd} (h:Inv W) {vs:Vs} (k : ∀ q n,(vs q n).map List.length=(W.vs q n).map List.length):Inv ⟨W.M,vs,W.order⟩:=⟨h.ok,shape_al h.shape k,h.nodup,h.order,h.few,h.acyc⟩
theorem check_own {m:Mod} {seen:Nm→Option (List Sy)} (h : check m seen = .fine) : m.name∉m.imports:=imports_not_own _ _ ((check_fine _ _).1 h).1
theorem OkM.more {M:Ms} (h:OkM M) {m:Mod} (hg:GoodM m) (hn:M m.name=none) (hc : check m (seenOf M) = .fine):OkM (setM M m):=by
 refine⟨fun q x hx=>?_,fun q x hx=>?_⟩
 ·by_cases e : q=m.name
  ·subst e;rw [setM_own] at hx;cases hx;exact⟨hg,rfl⟩
  ·rw [setM_other _ _ e] at hx;exact h.good q x hx
 ·by_cases e : q=m.name
  ·subst e
   rw [setM_own] at hx;cases hx
   rw [check_imports (seen:=seenOf M)]
   ·exact hc
   ·intro g hg'
    rw [seenOf_set,if_neg];intro e;subst e;exact check_own hc hg'
  ·rw [setM_other _ _ e] at hx
   have hf:=h.fine q x hx;rw [check_imports (seen:=seenOf M)]
   ·exact hf
   ·intro g hg'
    rw [seenOf_set,if_neg];intro e';subst e';have:=importsL_some _ _ ((check_fine _ _).1 hf).1 _ hg';rw [seenOf,hn] at this;cases this
theorem Inv.loaded {W:Wd} (h:Inv W) {m:Mod} (hg:GoodM m) (hn:W.M m.name=none) (hc : check m (seenOf W.M) = .fine) (hl:W.order.length≠10):Inv ⟨setM W.M m,startV W.vs m,W.order ++ [m.name]⟩:=by
 have hno : m.name∉W.order:=fun hm=>by have:=(h.order m.name).1 hm;rw [hn] at this;cases this
 have himp : ∀ a b,b≠m.name→(Imp (setM W.M m) a b↔Imp W.M a b):=fun a b hb=>by unfold Imp;rw [setM_other _ _ hb]
 have hold : ∀ b,Acc (Imp W.M) b→(W.M b).isSome→Acc (Imp (setM W.M m)) b:=fun b hb=>by
  induction hb with
  | intro b _ ih=>
   intro hs;have hbn : b≠m.name:=fun e=>by subst e;rw [hn] at hs;cases hs
   refine⟨_,fun a ha=>ih a ((himp a b hbn).1 ha) ?_⟩;obtain⟨mb,hmb,hab⟩:=(himp a b hbn).1 ha;have:=importsL_some _ _ ((check_fine _ _).1 (h.ok.fine b mb hmb)).1 a hab
   unfold seenOf at this
   cases hM:W.M a with
   | none=>rw [hM] at this;cases this
   | some _=>rfl
 refine⟨h.ok.more hg hn hc,fun q n=>?_,?_,fun q=>?_,by simp;have:=h.few;omega,fun q=>?_⟩
 ·simp only [startV]
  by_cases e : q=m.name
  ·subst e;rw [if_pos rfl,setM_own];rfl
  ·rw [if_neg e,setM_other _ _ e];exact h.shape q n
 ·refine List.nodup_append.2 ⟨h.nodup,by simp,fun a ha b hb=>?_⟩
  simp at hb
  subst hb;intro e;subst e;exact hno ha
 ·simp only [List.mem_append,List.mem_singleton]
  by_cases e : q=m.name
  ·subst e;simp [setM_own]
  ·rw [setM_other _ _ e,← h.order q];simp [e]
 ·by_cases hs : (W.M q).isSome
  ·exact hold q (h.acyc q) hs
  ·by_cases e : q=m.name
   ·subst e
    refine⟨_,fun a ⟨x,hx,ha⟩=>?_⟩
    change setM W.M m m.name=some x at hx
    rw [setM_own] at hx;cases hx
    refine hold a (h.acyc a) ?_;have:=importsL_some _ _ ((check_fine _ _).1 hc).1 a ha
    unfold seenOf at this
    cases hM:W.M a with
    | none=>rw [hM] at this;cases this
    | some _=>rfl
   ·refine⟨_,fun a ⟨x,hx,ha⟩=>?_⟩
    change setM W.M m q=some x at hx
    rw [setM_other _ _ e] at hx;rw [hx] at hs;exact absurd rfl hs
theorem load_total {W:Wd} (h:Inv W) {m:Mod} (hg:GoodM m) (fuel:Nat) : ∃ g r,loadW g W m fuel=some r∧Inv r.1:=by
 unfold loadW
 by_cases hs : (W.M m.name).isSome
 ·exact⟨0,_,by rw [if_pos hs],h⟩
 ·have hn:W.M m.name=none:=by cases hM:W.M m.name with|none=>rfl|some _=>rw [hM] at hs;exact absurd rfl hs
  cases hc : check m (seenOf W.M) with
  | plain e=>exact⟨0,_,by rw [if_neg hs],h⟩
  | at_ e p=>exact⟨0,_,by rw [if_neg hs],h⟩
  | fine=>
   by_cases hl:W.order.length=10
   ·exact⟨0,_,by rw [if_neg hs];simp only;rw [if_pos hl],h⟩
   ·have hI:=h.loaded hg hn hc hl
    have hfe:=(check_fine _ _).1 (hI.ok.fine m.name m (setM_own _ _));obtain⟨g,hfin⟩:=(safe hI.ok fuel 30).b 0 m.name m [] [] m.body ⟨fuel,[],startV W.vs m⟩ 10 (setM_own _ _) (by omega) (by omega) (Nat.le_refl _) (fun n=>by simp [getF]) hI.shaped hg.wf.body hfe.2.2.2;have hal:=(along keeps_shape (setM W.M m) g).b 0 m.name [] m.body ⟨fuel,[],startV W.vs m⟩;cases ho : (fns (setM W.M m) g).b 0 m.name [] m.body ⟨fuel,[],startV W.vs m⟩ with
    | stuck=>exact absurd ho hfin
    | ok x s=>
     rw [ho] at hal;exact⟨g,_,by rw [if_neg hs];simp only;rw [if_neg hl,ho],hI.vals hal⟩
    | stop way s=>
     rw [ho] at hal;exact⟨g,_,by rw [if_neg hs];simp only;rw [if_neg hl,ho],hI.vals hal⟩
theorem call_total {W:Wd} (h:Inv W) (q n:Nm) (args:List Int) (fuel:Nat) : ∃ g r,callW g W q n args fuel=some r∧Inv r.1:=by
 unfold callW
 cases hq:W.M q with
 | none=>exact⟨0,_,rfl,h⟩
 | some m=>
  simp only;cases hp : m.procs.find? fun p=>p.name == n && p.seen with
  | none=>exact⟨0,_,rfl,h⟩
  | some p=>
   simp only;by_cases ha : args.length≠p.params.length
   ·exact⟨0,_,by rw [if_pos ha],h⟩
   ·obtain⟨g,hfin⟩:=safe_c h.ok (N:=fuel) (k:=30) (fun k' _=>safe h.ok fuel k') 0 q m p args ⟨fuel,[],W.vs⟩ hq (List.mem_of_find?_eq_some hp) (by omega) (by omega) (by omega) (Nat.le_refl _) h.shaped
    have hal:=(along keeps_shape W.M g).c 0 q p args ⟨fuel,[],W.vs⟩;cases ho : (fns W.M g).c 0 q p args ⟨fuel,[],W.vs⟩ with
    | stuck=>exact absurd ho hfin
    | ok x s=>
     rw [ho] at hal;exact⟨g,_,by rw [if_neg ha,ho],h.vals hal⟩
    | stop way s=>
     rw [ho] at hal;exact⟨g,_,by rw [if_neg ha,ho],h.vals hal⟩
theorem Inv.swapped {W:Wd} (h:Inv W) {m old:Mod} (hg:GoodM m) (ho:W.M m.name=some old) (hc : check m (seenOf W.M) = .fine) (hr : ¬ ∃ n∈m.imports,Reach W.M n m.name)
  (hs : ¬ ∃ n∈W.order,∃ mn,W.M n=some mn∧needsT (ofM old) (usedL m.name mn)≠needsT (ofM m) (usedL m.name mn)):Inv ⟨setM W.M m,swapV W.vs old m,W.order⟩:=by
 have hgo:=h.ok.good _ _ ho;refine⟨⟨fun q x hx=>?_,fun q x hx=>?_⟩,fun q n=>?_,h.nodup,fun q=>?_,h.few,?_⟩
 ·by_cases e : q=m.name
  ·subst e;simp only [setM_own] at hx;cases hx;exact⟨hg,rfl⟩
  ·simp only [setM_other _ _ e] at hx;exact h.ok.good q x hx
 ·by_cases e : q=m.name
  ·subst e
   simp only [setM_own] at hx;cases hx
   rw [check_imports (seen:=seenOf W.M)]
   ·exact hc
   ·intro g hg'
    rw [seenOf_set,if_neg];intro e;subst e;exact check_own hc hg'
  ·simp only [setM_other _ _ e] at hx
   refine check_swap (old:=old) (m:=m) (h.ok.good q x hx).1 hgo.1 hg (by rw [seenOf,ho];rfl) (by rw [seenOf_set,if_pos rfl]) (fun g he=>by rw [seenOf_set,if_neg he]) ?_ (h.ok.fine q x hx);by_cases hne : needsT (ofM old) (usedL m.name x)=needsT (ofM m) (usedL m.name x)
   ·exact hne
   ·exact absurd ⟨q,(h.order q).2 (by rw [hx];rfl),x,hx,hne⟩ hs
 ·simp only [swapV]
  by_cases e : q=m.name
  ·subst e
   rw [if_pos rfl,setM_own];have hsh:=h.shape m.name n;rw [ho] at hsh;simp only [Option.bind_some] at hsh ⊢;have hnd : (m.vars.map (·.name)).Nodup:=(List.nodup_append.1 ((check_fine _ _).1 hc).2.1).1;by_cases hk : keptB old m n=true
   ·rw [if_pos hk,hsh]
    simp only [keptB,List.any_eq_true,Bool.and_eq_true,beq_iff_eq] at hk;obtain⟨g,hgm,hgn,o,hom,hon,hlen⟩:=hk;rw [← hgn,startF_is hnd hgm,hgn,← hon,startF_is (vars_nodup h.ok ho) hom];simp [zeros,sizeG,hlen]
   ·rw [if_neg hk]
  ·rw [if_neg e,setM_other _ _ e];exact h.shape q n
 ·show q∈W.order↔(setM W.M m q).isSome=true
  by_cases e : q=m.name
  ·subst e;rw [setM_own];have:=(h.order m.name).2 (by rw [ho];rfl);simp [this]
  ·rw [setM_other _ _ e];exact h.order q
 ·
  have himp : ∀ a b,b≠m.name→(Imp (setM W.M m) a b↔Imp W.M a b):=fun a b hb=>by unfold Imp;rw [setM_other _ _ hb]
  have hfar : ∀ b,Acc (Imp W.M) b→¬ Reach W.M b m.name→Acc (Imp (setM W.M m)) b:=fun b hb=>by
   induction hb with
   | intro b _ ih=>
    intro hnr;have hbn : b≠m.name:=fun e=>by subst e;exact hnr (.refl _)
    exact⟨_,fun a ha=>ih a ((himp a b hbn).1 ha) fun hra=>hnr (.step ((himp a b hbn).1 ha) hra)⟩
  have hself:Acc (Imp (setM W.M m)) m.name:=⟨_,fun a ⟨x,hx,ha⟩=>by
   rw [setM_own] at hx;cases hx
   exact hfar a (h.acyc a) fun hra=>hr ⟨a,ha,hra⟩⟩
  intro q;have : ∀ b,Acc (Imp W.M) b→Acc (Imp (setM W.M m)) b:=fun b hb=>by
   induction hb with
   | intro b _ ih=>
    by_cases e : b=m.name
    ·subst e;exact hself
    ·exact⟨_,fun a ha=>ih a ((himp a b e).1 ha)⟩
  exact this q (h.acyc q)
theorem swap_inv {W:Wd} (h:Inv W) {m:Mod} (hg:GoodM m):Inv (swapW W m).1:=by
 unfold swapW
 cases ho:W.M m.name with
 | none=>exact h
 | some old=>
  simp only;cases hc : check m (seenOf W.M) with
  | plain e=>exact h
  | at_ e p=>exact h
  | fine=>
   simp only;split
   ·exact h
   ·next hr=>
    split
    ·exact h
    ·next hs=>exact h.swapped hg ho hc hr hs
end Go.Mq.Run
namespace Go.Mq.Run
open Go Go.RowKit Go.Mq Go.Mq.Tree Go.Mq.Sym
open Go.Mq.Plan (MapIs getM putM run_getM run_getMok run_getNok run_putM)
theorem WAt.still {w w':World} {Own G:Nat→Prop} {bw:Nat} {W:Wd} (h:WAt w Own G bw W) (hc:Chg [] w w'):WAt w' (More Own w w') G bw W:=by
 have:=h.idle (Gm:=fun _=>False) hc (fun _ h=>h.elim)
 simpa using this
end Go.Mq.Run
namespace Go.Proofs.YtechofppmnnomaaGreatDoor
open Go Go.RowKit Go.Mq Go.Mq.Tree Go.Mq.Sym Go.Mq.Run
open Go.Mq.Check (FewM FewS FewE argsN check Out At1)
open Go.Mq.Plan (MapIs getM putM run_getM run_getMok run_getNok run_putM)
set_option maxRecDepth 100000
set_option maxHeartbeats 4000000
def Called (w:World) (Own G:Nat→Prop) (bw:Nat) (r:Wd × Nat × List Int × Int × Out) (e:Ending) (w':World):Prop:=
 ∃ ve vo,e = .returned (.tuple #[ve,num r.2.2.2.1,vo])∧EndV w' w.heap.size r.2.1 r.2.2.1 ve∧ErrV w' r.2.2.2.2 vo∧WAt w' (More Own w w') G bw r.1∧ChgO Own w w'
theorem Called.no {w w':World} {Own G:Nat→Prop} {bw:Nat} {W:Wd} {o:Out} {vo:Value} (h:WAt w Own G bw W) (hc:Chg [] w w') (he:ErrV w' o vo):Called w Own G bw (W,0,[],0,o) (.returned (.tuple #[.agg #[num 0,nils],num 0,vo])) w':=
 ⟨_,_,rfl,⟨nils,rfl,⟨rfl,.inl ⟨rfl,rfl⟩⟩,From.nil _⟩,he,h.still hc,.of hc⟩
theorem Called.done {w wD w9 wF:World} {Own G:Nat→Prop} {bw be bi way:Nat} {W:Wd} {L:Lay} {X:List Nat} {vs:Vs} {out:List Int} {n:Int} {ov:Value} (H:WAt w Own G bw W) (HH:Has w Own G bw W L) (hD:Chg [] w wD) (h9:Home w9 L vs) (hc9:Chg (X ++ L.arrs) wD w9) (hX : ∀ x∈X,x=bi) (hlt : w.heap.size≤be∧w.heap.size≤bi∧be < wD.heap.size∧bi < wD.heap.size)
  (ho : w9.ownsRow 0 i64T 1 ov out.length (ints out)) (hf:From wD.heap.size ov) (hcF:Chg [be,bi] w9 wF):Called w Own G bw (⟨W.M,vs,W.order⟩,way,out,n,.fine) (.returned (.tuple #[.agg #[num way,ov],num n,.nilIface])) wF:=by
 have hlow:=fun x (hx : w.heap.size≤x)=>HH.home.low hx
 have hs:=hD.size;have hs9:=hc9.size;have hsF:=hcF.size;have hbb : ∀ x∈[be,bi],w.heap.size≤x:=fun x hx=>by simp at hx;rcases hx with rfl|rfl <;> omega
 have hlay:=HH.home.lay w.heap.size (Nat.le_refl _);have hZ : ∀ x∈X ++ L.arrs,¬ L.Fix x:=fun x hx=>by
  rcases List.mem_append.1 hx with hx|hx
  ·rw [hX x hx];exact(hlow bi hlt.2.1).1
  ·exact(hlay.arrs hx).1
 have h10:=(((HH.kept hD (by simp)).went h9 hc9 hZ).keptF hcF (fun x hx=>hlow x (hbb x hx))).mono (Own':=More Own w wF) (fun x hx=>.inl hx);refine⟨_,_,rfl,⟨ov,rfl,owns_kept ho hcF (fun g hg hm=>?_),fun g hg=>?_⟩,rfl,⟨.inl H.own,fun x hx=>?_,fun x hx hx'=>?_,H.good,H.few,.inr ⟨L,h10⟩⟩,L.arrs,?_,HH.arrs⟩
 ·have:=hf g hg;simp at hm;omega
 ·have:=hf g hg;omega
 ·rcases hx with(hx|hx)|hx
  ·have:=H.lt x (.inl hx);omega
  ·exact hx.2
  ·have:=H.lt x (.inr hx);omega
 ·rcases hx with hx|hx
  ·exact H.dis x hx hx'
  ·have:=H.lt x (.inr hx');omega
 ·refine((hD.weak (S:=L.arrs)).trans hc9 (fun x hx=>?_)).trans hcF (fun x hx=>.inr (hbb x hx))
  rcases List.mem_append.1 hx with hx|hx
  ·exact .inr (by rw [hX x hx];exact hlt.2.1)
  ·exact .inl hx
theorem setN {w:World} {be bi:Nat} {u0 u1 u2:Value} (h:Blk w be #[u0,u1] 43) (hi:Blk w bi #[u2] i64T) (n k:Int) (v:Value) : ∃ wE,(((w.setCell ⟨be,0,none⟩ (num n)).setCell ⟨be,1,none⟩ v).setCell ⟨bi,0,none⟩ (num k))=wE∧Blk wE be #[num n,v] 43∧Blk wE bi #[num k] i64T:=by
 have hne : be≠bi:=fun e=>by subst e;unfold Blk at h hi;rw [h] at hi;simp at hi
 refine⟨_,rfl,((by simpa using (h.set 0 (num n)).set 1 v:Blk ((w.setCell ⟨be,0,none⟩ (num n)).setCell ⟨be,1,none⟩ v) be #[num n,v] _)).kept (Chg.set1 _ bi _ _) (by simpa using hne),?_⟩;have h2:Blk ((w.setCell ⟨be,0,none⟩ (num n)).setCell ⟨be,1,none⟩ v) bi #[u2] i64T:=(hi.kept (Chg.set1 _ be _ _) (by simpa using hne.symm)).kept (Chg.set1 _ be _ _) (by simpa using hne.symm)
 simpa using h2.set 0 (num k)
theorem wcall_none (g:Nat) {w:World} {Own G:Nat→Prop} {bw:Nat} {W:Wd} {q n:Nm} {args:List Int} {a:Option Addr} {c:Nat} {fuel:Nat} {r:Wd × Nat × List Int × Int × Out} (h:WAt w Own G bw W) (hq:W.M q=none) (hr : callW g W q n args fuel=some r) :
  Calls Tryz.prog 31 #[ptr bw,str q,str n,.slice a args.length c,num fuel] w (Called w Own G bw r):=by
 obtain⟨pv,oa,oc,hfr⟩:=h.front;obtain⟨o,hlk⟩:=front_look hfr q;rw [hq] at hlk;obtain⟨w0,hw0⟩ : ∃ x,w.alloc (.cells #[str n] 9)=x:=⟨_,rfl⟩
 have hb0:Blk w0 w.heap.size #[str n] 9:=by rw [← hw0];exact Blk.new w _ _
 have hc0:Chg [] w w0:=by rw [← hw0];exact(Chg.refl _ _).alloc _
 have hs0 : w0.heap.size=w.heap.size + 1:=by rw [← hw0];simp
 obtain⟨w1,hw1⟩ : ∃ x,w0.alloc (.cells #[.slice a args.length c] 41)=x:=⟨_,rfl⟩
 have hb1:Blk w1 w0.heap.size #[.slice a args.length c] 41:=by rw [← hw1];exact Blk.new w0 _ _
 have hc1:Chg [] w0 w1:=by rw [← hw1];exact(Chg.refl _ _).alloc _
 have hs1 : w1.heap.size=w0.heap.size + 1:=by rw [← hw1];simp
 obtain⟨w2,hw2⟩ : ∃ x,w1.alloc (.cells #[num 0,nils] 43)=x:=⟨_,rfl⟩
 have hb2:Blk w2 w1.heap.size #[num 0,nils] 43:=by rw [← hw2];exact Blk.new w1 _ _
 have hc2:Chg [] w1 w2:=by rw [← hw2];exact(Chg.refl _ _).alloc _
 have hs2 : w2.heap.size=w1.heap.size + 1:=by rw [← hw2];simp
 obtain⟨w3,hw3⟩ : ∃ x,w2.alloc (.cells #[num 0] i64T)=x:=⟨_,rfl⟩
 have hb3:Blk w3 w2.heap.size #[num 0] i64T:=by rw [← hw3];exact Blk.new w2 _ _
 have hc3:Chg [] w2 w3:=by rw [← hw3];exact(Chg.refl _ _).alloc _
 have hs3 : w3.heap.size=w2.heap.size + 1:=by rw [← hw3];simp
 obtain⟨w4,hw4⟩ : ∃ x,w3.alloc (.cells #[.pointer o] 94)=x:=⟨_,rfl⟩
 have hb4:Blk w4 w3.heap.size #[.pointer o] 94:=by rw [← hw4];exact Blk.new w3 _ _
 have hc4:Chg [] w3 w4:=by rw [← hw4];exact(Chg.refl _ _).alloc _
 have hs4 : w4.heap.size=w3.heap.size + 1:=by rw [← hw4];simp
 obtain⟨bn,hbn⟩ : ∃ b,b=w.heap.size:=⟨_,rfl⟩
 obtain⟨ba,hba⟩ : ∃ b,b=w0.heap.size:=⟨_,rfl⟩
 obtain⟨be,hbe⟩ : ∃ b,b=w1.heap.size:=⟨_,rfl⟩
 obtain⟨bi,hbi⟩ : ∃ b,b=w2.heap.size:=⟨_,rfl⟩
 obtain⟨bt,hbt⟩ : ∃ b,b=w3.heap.size:=⟨_,rfl⟩
 have hcw:Chg [] w w3:=hc0.then (hc1.then (hc2.then hc3))
 have hcw4:Chg [] w w4:=hcw.then hc4
 have hn3:=(((hb0.kept hc1 (by simp)).kept hc2 (by simp)).kept hc3 (by simp)).kept hc4 (by simp);have ha3:=((hb1.kept hc2 (by simp)).kept hc3 (by simp)).kept hc4 (by simp);have he3:=(hb2.kept hc3 (by simp)).kept hc4 (by simp);have hi3:=hb3.kept hc4 (by simp);have hne : w2.heap.size≠w1.heap.size:=by omega
 have hne' : w1.heap.size≠w2.heap.size:=by omega
 have hwb:=hfr.blk.kept hcw (by simp);rw [← hbn] at hn3;rw [← hba] at ha3;rw [← hbe] at he3;rw [← hbi] at hi3;rw [← hbt] at hb4;have b0:=hwb.cell 0 _ rfl;have b1:=hwb.cell 1 _ rfl;have hlk3:=hlk w3 hcw;have HLT:=zh (show bn=w.heap.size∧ba=w.heap.size + 1∧be=w.heap.size + 2∧bi=w.heap.size + 3∧bt=w.heap.size + 4∧w4.heap.size=w.heap.size + 5∧bw < w.heap.size by
  have:=h.lt bw (.inl h.own);omega)
 have HCE:=zh (fun(wx:World) (hx:Chg [] w wx)=>(show Chg [] w (((wx.setCell ⟨be,0,none⟩ (num 0)).setCell ⟨be,1,none⟩ nils).setCell ⟨bi,0,none⟩ (num 0)) from hx.trans ((Chg.set1 _ _ _ _).then (Chg.set1 _ _ _ _)) (fun x hx=>.inr (by have:=HLT.out;simp at hx;omega)) |>.trans (Chg.set1 _ _ _ _) (fun x hx=>.inr (by have:=HLT.out;simp at hx;omega))));have H:=zh h;have HR:=zh hr;have HFR:=zh hfr;have HCW:=zh hcw4;have HN:=zh hn3;have HA:=zh ha3;have HE:=zh he3;have HI:=zh hi3;have HT:=zh hb4;have e0:=he3.cell 0 _ rfl;have f0:=he3.frozen 0;have e1:=he3.cell 1 _ rfl;have f1:=he3.frozen 1;have i0:=hi3.cell 0 _ rfl;have g0:=hi3.frozen 0;have hrr : (W,0,[],0,.plain 7)=r:=by
  rw [callW,hq] at hr;cases hr;rfl
 subst hrr;obtain⟨wE,hwE,hbE,hbI⟩:=setN he3 hi3 0 0 nils;have HEI:=zh (And.intro hbE hbI);clear h hr hfr hb0 hc0 hs0 hb1 hc1 hs1 hb2 hc2 hs2 hb3 hc3 hs3 hc4 hs4 hb4 hcw hcw4 hn3 ha3 he3 hi3 hwb hlk hbE hbI hq
 go_enter Tryz.func31,Tryz.ntmps31
 simp only [hbn,hba,hbe,hbi] at *;go_wp2_with fail;have y0:=HEI.out.1.cell 0 _ rfl;have y1:=HEI.out.1.cell 1 _ rfl;have y2:=HEI.out.2.cell 0 _ rfl;refine bodyPost_ret (v:=.tuple #[.agg #[num 0,nils],num 0,.iface 46 (num 7)]) (by simp [results,Tryz.results31,go_sem,y0,y1,y2]) rfl ?_;have hc:=HCE.out w4 HCW.out;rw [hwE] at hc;exact Called.no H.out hc rfl
theorem wcall_some (g:Nat) {w:World} {Own G:Nat→Prop} {bw:Nat} {W:Wd} {q n:Nm} {args:List Int} {a:Option Addr} {c:Nat} {fuel:Nat} {r:Wd × Nat × List Int × Int × Out} {m:Mod} (h:WAt w Own G bw W) {Ga:Nat→Prop} (hrow:Row w Ga a (ints args)) (hga : ∀ x,Ga x→x < w.heap.size∧¬ Own x) (hal : args.length≤2000) (hfu : fuel≤9223372036854775807) (hq:W.M q=some m) (hr : callW g W q n args fuel=some r) :
  Calls Tryz.prog 31 #[ptr bw,str q,str n,.slice a args.length c,num fuel] w (Called w Own G bw r):=by
 have hmf : ∀ (fn:Fn) (first cap:Array Value) (w:World),(Instr.makeFunc fn first cap).run Tryz.prog w = .ok (.func fn first cap) w:=fun _ _ _ _=>rfl
 obtain⟨pv,oa,oc,hfr⟩:=h.front;obtain⟨bp,L,pes,rfl,hhas,hord⟩ : ∃ bp L pes,pv=some bp∧Has w Own G bw W L∧OrdAt w Own G bw W L bp (.slice oa W.order.length oc) pes:=by
  rcases hfr.at_ with⟨_,rfl,_⟩|h
  ·cases hq
  ·exact h
 have hqq:=hord.2.2.2.2.2.2 q;rw [hq] at hqq;obtain⟨hget,hown,bv,⟨_,hbv,_⟩,hpart⟩:=hqq;have hlk : ∀ w',Chg [] w w'→(Instr.lookup 38 (.map (some bp)) (str q) true).run Tryz.prog w' = .ok (.tuple #[ptr (L.pb q),.bool true]) w':=fun w' hc=>by
  have hl:=run_getMok (P:=Tryz.prog) Tryz.underlying38 Tryz.underlying9 (zero_part w') (hord.2.2.1.kept hc (by simp)) q;rw [hget] at hl;exact hl
 obtain⟨w0,hw0⟩ : ∃ x,w.alloc (.cells #[str n] 9)=x:=⟨_,rfl⟩
 have hb0:Blk w0 w.heap.size #[str n] 9:=by rw [← hw0];exact Blk.new w _ _
 have hc0:Chg [] w w0:=by rw [← hw0];exact(Chg.refl _ _).alloc _
 have hs0 : w0.heap.size=w.heap.size + 1:=by rw [← hw0];simp
 obtain⟨w1,hw1⟩ : ∃ x,w0.alloc (.cells #[.slice a args.length c] 41)=x:=⟨_,rfl⟩
 have hb1:Blk w1 w0.heap.size #[.slice a args.length c] 41:=by rw [← hw1];exact Blk.new w0 _ _
 have hc1:Chg [] w0 w1:=by rw [← hw1];exact(Chg.refl _ _).alloc _
 have hs1 : w1.heap.size=w0.heap.size + 1:=by rw [← hw1];simp
 obtain⟨w2,hw2⟩ : ∃ x,w1.alloc (.cells #[num 0,nils] 43)=x:=⟨_,rfl⟩
 have hb2:Blk w2 w1.heap.size #[num 0,nils] 43:=by rw [← hw2];exact Blk.new w1 _ _
 have hc2:Chg [] w1 w2:=by rw [← hw2];exact(Chg.refl _ _).alloc _
 have hs2 : w2.heap.size=w1.heap.size + 1:=by rw [← hw2];simp
 obtain⟨w3,hw3⟩ : ∃ x,w2.alloc (.cells #[num 0] i64T)=x:=⟨_,rfl⟩
 have hb3:Blk w3 w2.heap.size #[num 0] i64T:=by rw [← hw3];exact Blk.new w2 _ _
 have hc3:Chg [] w2 w3:=by rw [← hw3];exact(Chg.refl _ _).alloc _
 have hs3 : w3.heap.size=w2.heap.size + 1:=by rw [← hw3];simp
 obtain⟨w4,hw4⟩ : ∃ x,w3.alloc (.cells #[ptr (L.pb q)] 94)=x:=⟨_,rfl⟩
 have hb4:Blk w4 w3.heap.size #[ptr (L.pb q)] 94:=by rw [← hw4];exact Blk.new w3 _ _
 have hc4:Chg [] w3 w4:=by rw [← hw4];exact(Chg.refl _ _).alloc _
 have hs4 : w4.heap.size=w3.heap.size + 1:=by rw [← hw4];simp
 obtain⟨bn,hbn⟩ : ∃ b,b=w.heap.size:=⟨_,rfl⟩
 obtain⟨ba,hba⟩ : ∃ b,b=w0.heap.size:=⟨_,rfl⟩
 obtain⟨be,hbe⟩ : ∃ b,b=w1.heap.size:=⟨_,rfl⟩
 obtain⟨bi,hbi⟩ : ∃ b,b=w2.heap.size:=⟨_,rfl⟩
 obtain⟨bt,hbt⟩ : ∃ b,b=w3.heap.size:=⟨_,rfl⟩
 have hcw:Chg [] w w3:=hc0.then (hc1.then (hc2.then hc3))
 have hcw4:Chg [] w w4:=hcw.then hc4
 have hn3:=(((hb0.kept hc1 (by simp)).kept hc2 (by simp)).kept hc3 (by simp)).kept hc4 (by simp);have ha3:=((hb1.kept hc2 (by simp)).kept hc3 (by simp)).kept hc4 (by simp);have he3:=(hb2.kept hc3 (by simp)).kept hc4 (by simp);have hi3:=hb3.kept hc4 (by simp);have hne : w2.heap.size≠w1.heap.size:=by omega
 have hne' : w1.heap.size≠w2.heap.size:=by omega
 have hwb:=hfr.blk.kept hcw (by simp);rw [← hbn] at hn3;rw [← hba] at ha3;rw [← hbe] at he3;rw [← hbi] at hi3;rw [← hbt] at hb4;have b0:=hwb.cell 0 _ rfl;have b1:=hwb.cell 1 _ rfl;have hlk3:=hlk w3 hcw;have HLT:=zh (show bn=w.heap.size∧ba=w.heap.size + 1∧be=w.heap.size + 2∧bi=w.heap.size + 3∧bt=w.heap.size + 4∧w4.heap.size=w.heap.size + 5∧bw < w.heap.size by
  have:=h.lt bw (.inl h.own);omega)
 have HCE:=zh (fun(wx:World) (hx:Chg [] w wx)=>(show Chg [] w (((wx.setCell ⟨be,0,none⟩ (num 0)).setCell ⟨be,1,none⟩ nils).setCell ⟨bi,0,none⟩ (num 0)) from hx.trans ((Chg.set1 _ _ _ _).then (Chg.set1 _ _ _ _)) (fun x hx=>.inr (by have:=HLT.out;simp at hx;omega)) |>.trans (Chg.set1 _ _ _ _) (fun x hx=>.inr (by have:=HLT.out;simp at hx;omega))));have H:=zh h;have HR:=zh hr;have HFR:=zh hfr;have HCW:=zh hcw4;have HN:=zh hn3;have HA:=zh ha3;have HE:=zh he3;have HI:=zh hi3;have HT:=zh hb4;obtain⟨hpo,hfew,ai,ci,av,cv,ap,cp,ab,cb,bv',es,hp3,hmod,_,_,_⟩:=hpart.kept hcw4 (by simp);obtain⟨vi,vv,vp,vb,hve,_,_,hpr,_⟩:=hmod;cases hve
 have p3:=hp3.cell 3 _ rfl;have t0:=hb4.cell 0 _ rfl;have HIX:=zh (cindexp_any m.procs hfew.procs n bn _ _ w4 (procsL_of hpr) (hn3.cell 0 _ rfl));have HPR:=zh hpr;have HP3:=zh hp3;have HFW:=zh hfew;have HHAS:=zh hhas;have HORD:=zh hord;have HROW:=zh hrow;have HGA:=zh hga;have HAL:=zh hal;have HFU:=zh hfu;have HQ:=zh hq;clear h hr hfr hb0 hc0 hs0 hb1 hc1 hs1 hb2 hc2 hs2 hb3 hc3 hs3 hc4 hs4 hcw hcw4 hn3 ha3 he3 hi3 hwb hlk hq hhas hord hget hown hbv hpart hpo hfew hp3 hpr hrow hga hal hfu
 go_enter Tryz.func31,Tryz.ntmps31
 rw [hbt] at t0;rw [hbn] at HIX;go_wp2_with fail;refine HIX.out.mono ?_;rintro e w5 ⟨hat,hc5⟩;rw [← hbn,← hba,← hbe,← hbi,← hbt];clear hw0 hw1 hw2 hw3 hw4 hbn hba hbe hbi hbt hne hne' b0 b1 hlk3 p3 t0;have HC5:=zh hc5;have hk5:Chg [] w w5:=HCW.out.then hc5
 obtain⟨bk,hbk⟩ : ∃ b,b=w5.heap.size:=⟨_,rfl⟩
 have hcell : ∀ kk:Int,∃ w6,(w5.alloc (.cells #[num 0] 3)).setCell ⟨w5.heap.size,0,none⟩ (num kk)=w6∧Chg [] w5 w6∧Blk w6 bk #[num kk] 3∧w6.heap.size=w5.heap.size + 1:=fun kk=>by
  refine⟨_,rfl,((Chg.refl [] w5).alloc _).trans (Chg.set1 _ _ _ _) (fun x hx=>.inr (by simp at hx;omega)),?_,by simp⟩;rw [hbk]
  simpa using (Blk.new w5 #[num 0] 3).set 0 (num kk)
 have p3:=(HP3.out.kept hc5 (by simp)).cell 3 _ rfl;have hn0:=(HT.out.kept hc5 (by simp)).cell 0 _ rfl;have hm0:=(HN.out.kept hc5 (by simp)).cell 0 _ rfl;cases hfd : m.procs.find? fun p=>p.name == n && p.seen with
 | none=>
  rw [At1,hfd] at hat;simp only at hat;subst hat;obtain⟨w6,hw6,hc6,hb6,hs6⟩:=hcell (-1);have he6:=(HE.out.kept hc5 (by simp)).kept hc6 (by simp);have hi6:=(HI.out.kept hc5 (by simp)).kept hc6 (by simp);have e0:=he6.cell 0 _ rfl;have f0:=he6.frozen 0;have e1:=he6.cell 1 _ rfl;have f1:=he6.frozen 1;have i0:=hi6.cell 0 _ rfl;have g0:=hi6.frozen 0;have k0:=hb6.cell 0 _ rfl;have hne : bi≠be:=by have:=HLT.out;omega
  have hne' : be≠bi:=by have:=HLT.out;omega
  rw [hbk] at k0;clear hbk;have HEI:=zh (And.intro he6 hi6);have HC6:=zh (hk5.then hc6);have hrr : (W,0,[],0,.plain 7)=r:=by
   have hr:=HR.out;rw [callW,HQ.out] at hr;simp only at hr;rw [hfd] at hr;simp only at hr;cases hr;rfl
  subst hrr;obtain⟨wE,hwE,hbE,hbI⟩:=setN he6 hi6 0 0 nils;have HEF:=zh (And.intro hbE hbI);clear hc5 hk5 hcell hc6 hb6 hs6 he6 hi6 hbE hbI hfd;go_wp2_with fail;have y0:=HEF.out.1.cell 0 _ rfl;have y1:=HEF.out.1.cell 1 _ rfl;have y2:=HEF.out.2.cell 0 _ rfl;refine bodyPost_ret (v:=.tuple #[.agg #[num 0,nils],num 0,.iface 46 (num 7)]) (by simp [results,Tryz.results31,go_sem,y0,y1,y2]) rfl ?_;have hc:=HCE.out w6 HC6.out;rw [hwE] at hc;exact Called.no H.out hc rfl
 | some p=>
  rw [At1,hfd] at hat;obtain⟨kk,hkk,rfl⟩:=hat;obtain⟨w6,hw6,hc6,hb6,hs6⟩:=hcell kk;have HFD:=zh hfd;have HKK:=zh hkk;have k0:=hb6.cell 0 _ rfl;rw [hbk] at k0;have HC6:=zh (hk5.then hc6);have HB6:=zh hb6;have HS6:=zh hs6;have HC56:=zh hc6;have hklt : ¬ ((kk:Int) < 0):=by omega
  obtain⟨wD,hwD⟩ : ∃ x,x=w6.drew:=⟨_,rfl⟩
  have hcD:Chg [] w6 wD:=by rw [hwD];exact(Chg.refl [] w6).drew
  have HCD:=zh hcD;obtain⟨bb,off,cc,vvp,vvv,vvb,hsl,hcc,_,_,_,d3,_,_,hn1,_,_⟩:=procsAt_cells (((HPR.out.kept hc5 (by simp)).kept hc6 (by simp)).kept hcD (by simp)) hkk;simp only [Value.slice.injEq,true_and] at hsl;obtain⟨rfl,rfl⟩:=hsl;obtain⟨aq,cq,rfl,_⟩:=hn1;have hkl:=(List.getElem?_eq_some_iff.1 hkk).1;have HKL:=zh hkl;have hc5D:Chg [] w4 wD:=(hc5.then hc6).then hcD
  have HC4D:=zh hc5D;have a0:=(HA.out.kept hc5D (by simp)).cell 0 _ rfl;have t0:=(HT.out.kept hc5D (by simp)).cell 0 _ rfl;have p3':=(HP3.out.kept hc5D (by simp)).cell 3 _ rfl;have kD:=(hb6.kept hcD (by simp)).cell 0 _ rfl;have Z3:=zh (Zone.of (X:=[]) (w0:=wD) p3' (by simp));clear hfd hkk hc6 hb6 hs6 hcell hcD hc5D hc5;go_wp2_with fail;rw [← hbk];clear hbk hw6 k0 hn0 hm0 p3 hk5;cases hcmp : ((args.length:Int) != (p.params.length:Int)) with
  | true=>
   have hne' : args.length≠p.params.length:=fun e=>by simp [e] at hcmp
   have hrr : (W,0,[],0,.plain 2)=r:=by
    have hr:=HR.out;rw [callW,HQ.out] at hr;simp only at hr;rw [HFD.out] at hr;simp only at hr;rw [if_pos hne'] at hr;cases hr;rfl
   subst hrr;have heD:=HE.out.kept HC4D.out (by simp);have hiD:=HI.out.kept HC4D.out (by simp);have e0:=heD.cell 0 _ rfl;have f0:=heD.frozen 0;have e1:=heD.cell 1 _ rfl;have f1:=heD.frozen 1;have i0:=hiD.cell 0 _ rfl;have g0:=hiD.frozen 0;have hnx : bi≠be:=by have:=HLT.out;omega
   have hnx' : be≠bi:=by have:=HLT.out;omega
   obtain⟨wE,hwE,hbE,hbI⟩:=setN heD hiD 0 0 nils;have HEF:=zh (And.intro hbE hbI);clear heD hiD hbE hbI hne';refine wp_region_L [] rfl (by kernel_rfl) ?_;rw [← hwD];clear hwD;have hS:Chg [] wD wD:=Chg.refl _ _
   repeat ((with_reducible refine gX ?_);(first|refine wpX_nil ?_|refine sK ?_|refine sM fun _ _=>?_|refine sL fun _ _=>?_|refine sE fun _ _=>?_);go_wp2_with fail)
   have y0:=HEF.out.1.cell 0 _ rfl;have y1:=HEF.out.1.cell 1 _ rfl;have y2:=HEF.out.2.cell 0 _ rfl;refine bodyPost_ret (v:=.tuple #[.agg #[num 0,nils],num 0,.iface 46 (num 2)]) (by simp [results,Tryz.results31,go_sem,y0,y1,y2]) rfl ?_;have hc:=HCE.out wD (HCW.out.then HC4D.out);rw [hwE] at hc;exact Called.no H.out hc rfl
  | false=>
   have hln : args.length=p.params.length:=by
    have : (args.length:Int)=p.params.length:=by simpa using hcmp
    omega
   obtain⟨ob,hob⟩ : ∃ o,o=(fns W.M g).c 0 q p args ⟨fuel,[],W.vs⟩:=⟨_,rfl⟩
   have hr:=HR.out;rw [callW,HQ.out] at hr;simp only at hr;rw [HFD.out] at hr;simp only at hr;rw [if_neg (by simpa using hln),← hob] at hr;have hnst : ob ≠ .stuck:=fun h=>by rw [h] at hr;cases hr
   have hcWD:Chg [] w wD:=HCW.out.then HC4D.out
   have hXl : ∃ X:List Nat,(∀ n s',ob = .ok n s'→X=[bi])∧(∀ way s',ob = .stop way s'→X=[]):=by
    cases ob with
    | ok n s'=>exact⟨[bi],fun _ _ _=>rfl,fun _ _ h=>by cases h⟩
    | stop way s'=>exact⟨[],fun _ _ h=>(by cases h),fun _ _ _=>rfl⟩
    | stuck=>exact absurd rfl hnst
   obtain⟨X,hX1,hX2⟩:=hXl;have hXb : ∀ x∈X,x=bi:=fun x hx=>by
    cases hob' : ob with
    | ok n s'=>rw [hX1 n s' hob'] at hx;simpa using hx
    | stop way s'=>rw [hX2 way s' hob'] at hx;cases hx
    | stuck=>exact absurd hob' hnst
   have hlow:=fun x (hx : w.heap.size≤x)=>HHAS.out.home.low hx
   have hsD:=hcWD.size;have HGS:=zh (goes_any4 66 (ptr bt) (ptr bk) (ptr ba) (ptr bi) (fun args w=>rfl) ob (fun w' n e=>e = .returned (.tuple #[])∧Blk w' bi #[num n] i64T) (fun _ _ _ h=>h.1) L W.vs fuel HFU.out X wD (HHAS.out.home.kept hcWD) (fun x hx=>by rw [hXb x hx];have:=HLT.out;have:=HC4D.out.size;omega) hnst (fun w1 br hbr hc1 hg=>by
    rw [hob,← HHAS.out.M];exact call_does (L:={ L with br:=br }) (q:=q) (m:=m) (p:=p) (k:=kk) (args:=args) (a:=a) (c:=c) (b13:=bt) (b15:=bk) (b8:=ba) (b11:=bi) (u:=num 0) g hg (by show L.M q=some m;rw [HHAS.out.M];exact HQ.out) HKK.out (((HT.out.kept HC4D.out (by simp)).kept hc1 (by simp))) (((HB6.out.kept HCD.out (by simp)).kept hc1 (by simp))) (((HA.out.kept HC4D.out (by simp)).kept hc1 (by simp))) (((HI.out.kept HC4D.out (by simp)).kept hc1 (by simp))) ⟨fun hm=>by
     have hb:=hlow bi (by have:=HLT.out;omega);rcases List.mem_cons.1 hm with h|hm
     ·have h : bi=br:=h
      have:=HLT.out;have:=HC4D.out.size;omega
     ·exact hb.2 (by simpa [blk] using hm),(hlow bi (by have:=HLT.out;omega)).1⟩ ((((HROW.out.kept hcWD (by simp)).kept hc1 (by simp))).mono (fun x hx hm=>by
     have hx:=HGA.out x hx;rcases List.mem_cons.1 hm with h|hm
     ·have h : x=br:=h
      omega
     ·exact hx.2 (HHAS.out.arrs x (by simpa [blk] using hm)))) HAL.out (by show (fns L.M g).c 0 q p args _≠_;rw [HHAS.out.M,← hob];exact hnst) X (fun n s' he=>hX1 n s' (by rw [hob,← HHAS.out.M];exact he))))
   rw [HHAS.out.bw_] at HGS;have HOB:=zh hob;have HRR:=zh hr;have HX1:=zh hX1;have HX2:=zh hX2;have HXB:=zh hXb;have HLOW:=zh hlow;have HWD:=zh hcWD;clear hob hr hnst hX1 hX2 hXb hlow hsD hcWD hln;refine wp_region_L [] rfl (by kernel_rfl) ?_;rw [← hwD];clear hwD;have hS:Chg [] wD wD:=Chg.refl _ _
   repeat ((with_reducible refine gX ?_);(first|refine wpX_nil ?_|refine sK ?_|refine sM fun _ _=>?_|refine sL fun _ _=>?_|refine sE fun _ _=>?_);go_wp2_with fail)
   clear hS Z3 a0 t0 p3' kD d3;refine HGS.out.mono ?_;rintro _ w9 ⟨ve,rfl,hev,hh9,hc9,hok⟩;obtain⟨eov,rfl,heo,hef⟩:=hev;obtain⟨ea,ec,rfl⟩:=slice_of_owns heo;have hbx : ∀ x,x=be∨x=bi→x∉L.arrs:=fun x hx=>(HLOW.out x (by have:=HLT.out;omega)).2
   have hbe9:=(HE.out.kept HC4D.out (by simp)).kept hc9 (fun hm=>by
    rcases List.mem_append.1 hm with h|h
    ·have:=HXB.out _ h;have:=HLT.out;omega
    ·exact hbx be (.inl rfl) h)
   have HH9:=zh hh9;have HC9:=zh hc9;have HEO:=zh heo;have HEF:=zh hef;have e0:=hbe9.cell 0 _ rfl;have f0:=hbe9.frozen 0;have e1:=hbe9.cell 1 _ rfl;have f1:=hbe9.frozen 1;have HBE9:=zh hbe9;have hnx : bi≠be:=by have:=HLT.out;omega
   have hnx' : be≠bi:=by have:=HLT.out;omega
   cases hob : ob with
   | stuck=>
    have:=HRR.out;rw [hob] at this;cases this
   | ok nn s9=>
    obtain⟨w2',⟨_,hbi2⟩,hcw2⟩:=hok nn s9 hob;have hbi9:Blk w9 bi #[num nn] i64T:=hbi2.kept hcw2 (by have:=HC4D.out.size;have:=HLT.out;simp;omega);have i0:=hbi9.cell 0 _ rfl;have g0:=hbi9.frozen 0;have HBI9:=zh hbi9;have HOBB:=zh hob;subst hob;clear hh9 hc9 heo hef hbe9 hbi9 hok hbx hbi2 hcw2;simp only [endOf,stOf] at *;obtain⟨wS,hwS,hbS,hcS⟩:=setE 1 (.slice ea s9.out.length ec) HBE9.out;have hiS:=HBI9.out.kept hcS (by simpa using hnx);have s0:=hbS.cell 0 _ rfl;have s1:=hbS.cell 1 _ rfl;have t0:=hbS.frozen 0;have t1:=hbS.frozen 1;have j0:=hiS.cell 0 _ rfl;have j1:=hiS.frozen 0;have HBS:=zh hbS;have HIS:=zh hiS;have HCS:=zh hcS;clear hbS hiS hcS;go_wp2_with fail;clear e0 f0 e1 f1 i0 g0 hwS;have s0':=(HBS.out.kept (Chg.refl [] wS).drew (by simp)).cell 0 _ rfl;have s1':=(HBS.out.kept (Chg.refl [] wS).drew (by simp)).cell 1 _ rfl;have j0':=(HIS.out.kept (Chg.refl [] wS).drew (by simp)).cell 0 _ rfl
    go_region
    all_goals (try go_wp2_with fail)
    obtain⟨wE,hwE,hbE,hbI⟩:=setN HBS.out HIS.out 1 nn (.slice ea s9.out.length ec);have hcE:Chg [be,bi] wS wE:=by
     rw [← hwE];exact(((Chg.refl [be,bi] wS).setCell _ (.inl (by simp)) _).setCell _ (.inl (by simp)) _).setCell _ (.inl (by simp)) _
    rw [hwE];have y0:=(hbE.kept (Chg.refl [] wE).drew (by simp)).cell 0 _ rfl;have y1:=(hbE.kept (Chg.refl [] wE).drew (by simp)).cell 1 _ rfl;have y2:=(hbI.kept (Chg.refl [] wE).drew (by simp)).cell 0 _ rfl;refine bodyPost_ret (v:=.tuple #[.agg #[num 1,.slice ea s9.out.length ec],num nn,.nilIface]) (by simp [results,Tryz.results31,go_sem,y0,y1,y2]) rfl ?_;have hrr:=HRR.out;simp only [Option.some.injEq] at hrr;subst hrr;exact Called.done (bi:=bi) (be:=be) (way:=1) H.out HHAS.out HWD.out HH9.out HC9.out HXB.out (by have:=HLT.out;have:=HC4D.out.size;omega) HEO.out HEF.out (((HCS.out.mono (fun x hx=>.inl (by simp at hx;simp [hx]))).then hcE).then (Chg.refl [be,bi] wE).drew)
   | stop way s9=>
    have hXn:X=[]:=HX2.out way s9 hob;subst hXn;have hbi9:Blk w9 bi #[num 0] i64T:=(HI.out.kept HC4D.out (by simp)).kept hc9 (fun hm=>hbx bi (.inr rfl) (by simpa using hm));have i0:=hbi9.cell 0 _ rfl;have g0:=hbi9.frozen 0;have HBI9:=zh hbi9;subst hob;clear hh9 hc9 heo hef hbe9 hbi9 hok hbx;simp only [endOf,stOf] at *;by_cases hway : way=1
    ·subst hway
     obtain⟨wS,hwS,hbS,hcS⟩:=setE 1 (.slice ea s9.out.length ec) HBE9.out;have hiS:=HBI9.out.kept hcS (by simpa using hnx);have s0:=hbS.cell 0 _ rfl;have s1:=hbS.cell 1 _ rfl;have t0:=hbS.frozen 0;have t1:=hbS.frozen 1;have j0:=hiS.cell 0 _ rfl;have j1:=hiS.frozen 0;have HBS:=zh hbS;have HIS:=zh hiS;have HCS:=zh hcS;clear hbS hiS hcS;go_wp2_with fail;clear e0 f0 e1 f1 i0 g0 hwS;have s0':=(HBS.out.kept (Chg.refl [] wS).drew (by simp)).cell 0 _ rfl;have s1':=(HBS.out.kept (Chg.refl [] wS).drew (by simp)).cell 1 _ rfl;have j0':=(HIS.out.kept (Chg.refl [] wS).drew (by simp)).cell 0 _ rfl
     go_region
     all_goals (try go_wp2_with fail)
     obtain⟨wE,hwE,hbE,hbI⟩:=setN HBS.out HIS.out 1 0 (.slice ea s9.out.length ec);have hcE:Chg [be,bi] wS wE:=by
      rw [← hwE];exact(((Chg.refl [be,bi] wS).setCell _ (.inl (by simp)) _).setCell _ (.inl (by simp)) _).setCell _ (.inl (by simp)) _
     rw [hwE];have y0:=(hbE.kept (Chg.refl [] wE).drew (by simp)).cell 0 _ rfl;have y1:=(hbE.kept (Chg.refl [] wE).drew (by simp)).cell 1 _ rfl;have y2:=(hbI.kept (Chg.refl [] wE).drew (by simp)).cell 0 _ rfl;refine bodyPost_ret (v:=.tuple #[.agg #[num 1,.slice ea s9.out.length ec],num 0,.nilIface]) (by simp [results,Tryz.results31,go_sem,y0,y1,y2]) rfl ?_;have hrr:=HRR.out;simp only [Option.some.injEq] at hrr;subst hrr;exact Called.done (bi:=bi) (be:=be) (way:=1) H.out HHAS.out HWD.out HH9.out HC9.out HXB.out (by have:=HLT.out;have:=HC4D.out.size;omega) HEO.out HEF.out (((HCS.out.mono (fun x hx=>.inl (by simp at hx;simp [hx]))).then hcE).then (Chg.refl [be,bi] wE).drew)
    ·have hway' : ¬ (way:Int)=1:=by omega
     obtain⟨wS,hwS,hbS,hcS⟩:=setE way (.slice ea s9.out.length ec) HBE9.out;have hiS:=HBI9.out.kept hcS (by simpa using hnx);have s0:=hbS.cell 0 _ rfl;have s1:=hbS.cell 1 _ rfl;have t0:=hbS.frozen 0;have t1:=hbS.frozen 1;have j0:=hiS.cell 0 _ rfl;have j1:=hiS.frozen 0;obtain⟨wT,hwT⟩ : ∃ x,wS.setCell ⟨bi,0,none⟩ (num 0)=x:=⟨_,rfl⟩
     have hcT:Chg [bi] wS wT:=by rw [← hwT];exact Chg.set1 _ _ _ _
     have hiT:Blk wT bi #[num 0] i64T:=by rw [← hwT];simpa using hiS.set 0 (num 0)
     have hbT:=hbS.kept hcT (by simpa using hnx');have HCS:=zh hcS;have HBT:=zh hbT;have HIT:=zh hiT;have HCT:=zh hcT;clear hbS hiS hcS hcT hiT hbT;go_wp2_with fail;clear e0 f0 e1 f1 i0 g0 hwS s0 s1 t0 t1 j0 j1 hwT;have s0:=HBT.out.cell 0 _ rfl;have s1:=HBT.out.cell 1 _ rfl;have t0:=HBT.out.frozen 0;have t1:=HBT.out.frozen 1;have j0:=HIT.out.cell 0 _ rfl;have j1:=HIT.out.frozen 0;have s0':=(HBT.out.kept (Chg.refl [] wT).drew (by simp)).cell 0 _ rfl;have s1':=(HBT.out.kept (Chg.refl [] wT).drew (by simp)).cell 1 _ rfl;have j0':=(HIT.out.kept (Chg.refl [] wT).drew (by simp)).cell 0 _ rfl
     go_region
     all_goals (try go_wp2_with fail)
     obtain⟨wE,hwE,hbE,hbI⟩:=setN HBT.out HIT.out way 0 (.slice ea s9.out.length ec);have hcE:Chg [be,bi] wT wE:=by
      rw [← hwE];exact(((Chg.refl [be,bi] wT).setCell _ (.inl (by simp)) _).setCell _ (.inl (by simp)) _).setCell _ (.inl (by simp)) _
     rw [hwE];have y0:=(hbE.kept (Chg.refl [] wE).drew (by simp)).cell 0 _ rfl;have y1:=(hbE.kept (Chg.refl [] wE).drew (by simp)).cell 1 _ rfl;have y2:=(hbI.kept (Chg.refl [] wE).drew (by simp)).cell 0 _ rfl;refine bodyPost_ret (v:=.tuple #[.agg #[num way,.slice ea s9.out.length ec],num 0,.nilIface]) (by simp [results,Tryz.results31,go_sem,y0,y1,y2]) rfl ?_;have hrr:=HRR.out;simp only [Option.some.injEq] at hrr;subst hrr;exact Called.done (bi:=bi) (be:=be) (way:=way) H.out HHAS.out HWD.out HH9.out HC9.out HXB.out (by have:=HLT.out;have:=HC4D.out.size;omega) HEO.out HEF.out ((((HCS.out.mono (fun x hx=>.inl (by simp at hx;simp [hx]))).then (HCT.out.mono (fun x hx=>.inl (by simp at hx;simp [hx])))).then hcE).then (Chg.refl [be,bi] wE).drew)
theorem wcall_any (g:Nat) {w:World} {Own G:Nat→Prop} {bw:Nat} {W:Wd} {q n:Nm} {args:List Int} {a:Option Addr} {c:Nat} {fuel:Nat} {r:Wd × Nat × List Int × Int × Out} (h:WAt w Own G bw W) {Ga:Nat→Prop} (hrow:Row w Ga a (ints args)) (hga : ∀ x,Ga x→x < w.heap.size∧¬ Own x) (hal : args.length≤2000) (hfu : fuel≤9223372036854775807) (hr : callW g W q n args fuel=some r) :
  Calls Tryz.prog 31 #[ptr bw,str q,str n,.slice a args.length c,num fuel] w (Called w Own G bw r):=by
 cases hq:W.M q with
 | none=>exact wcall_none g h hq hr
 | some m=>exact wcall_some g h hrow hga hal hfu hq hr
end Go.Proofs.YtechofppmnnomaaGreatDoor
namespace Go.Proofs.YtechofppmnnomaaGreatDoor
open Go Go.RowKit Go.Mq Go.Mq.Tree Go.Mq.Sym Go.Mq.Run
open Go.Mq.Plan (MapIs getM putM run_getM run_getMok run_getNok run_putM)
set_option maxRecDepth 100000
set_option maxHeartbeats 4000000
theorem clone_ints (l:List Int) (hl : l.length≤1000) (a:Addr) (c:Nat) (F:Nat→Prop) (w:World) (hrow:Row w F (some a) (ints l)) :
  Calls Tryz.prog 58 #[.slice (some a) l.length c] w (fun e w'=>∃ v',e = .returned v'∧w'.ownsRow 0 i64T 1 v' l.length (ints l)∧From w.heap.size v'∧Chg [] w w'):=by
 have hne : ∀ w,(binOp BinOp.eql 41 (.slice (some a) l.length c) (.slice none 0 0)).run Tryz.prog w = .ok (.bool false) w:=fun _=>rfl
 have hown : (w.alloc (.cells #[] i64T)).ownsRow 0 i64T 1 (.slice (some ⟨w.heap.size,0,none⟩) 0 0) 0 []:=⟨rfl,.inr ⟨w.heap.size,0,#[],rfl,Nat.zero_le _,heap_alloc_new w _,Nat.le_refl _,Nat.zero_le _,rfl,rfl⟩⟩;have HOWN:=zh hown;have hca:Chg [] w (w.alloc (.cells #[] i64T)):=(Chg.refl _ _).alloc _;have HAT:=zh ((hrow.kept hca (by simp)).at_);have HCA:=zh hca;clear hrow hown hca
 go_enter Tryz.func58,Tryz.ntmps58
 go_wp2_with (at_builtin;go_must (refine wpL_append_any rfl _ _ 41 rfl i64T _ 1 8 infoInt Tryz.underlying41 rfl (by decide) _ 0 [] rfl HOWN.out (some a) l.length c (ints l) rfl ?_ HAT.out ?_ ?_ ?_ ?_))
 ·simp
 ·intro u hu
  simp only [ints,List.mem_map] at hu;obtain⟨x,_,rfl⟩:=hu
  rfl
 ·omega
 ·unfold maxLen;omega
 ·intro v' w' hown' hch' hmv'
  have HO:=zh (show w'.ownsRow 0 i64T 1 v' l.length (ints l) by simpa using hown');have hf:From w.heap.size v':=fun g hg=>by
   rcases hmv' g hg with h1|h1
   ·simp [blk] at h1;omega
   ·simp at h1;omega
  have HF:=zh hf;have HC:=zh (HCA.out.trans hch' (fun x hx=>.inr (by simp [blk] at hx;omega)));clear hown' hch' hmv' hf;go_wp2_with fail;go_ret
  exact⟨_,rfl,HO.out,HF.out,HC.out⟩
theorem clone_strs (l:List Nm) (hl : l.length≤1000) (v:Value) (w:World) (hv : w.ownsRow 0 9 1 v l.length (l.map str)) :
  Calls Tryz.prog 87 #[v] w (fun e w'=>∃ v',e = .returned v'∧w'.ownsRow 0 9 1 v' l.length (l.map str)∧From w.heap.size v'∧Chg [] w w'):=by
 obtain⟨a,c,rfl,hlc,hrow⟩:=Row.of_owns (F:=fun _=>True) hv (fun _ _=>trivial);cases a with
 | none=>
  have hc0 : c=0∧l=[]:=by
   rcases hv.2 with⟨h,h2⟩|⟨g,cap,cur,h,_⟩
   ·simp only [Value.slice.injEq,true_and] at h
    exact⟨h.2,List.eq_nil_of_length_eq_zero h2⟩
   ·simp at h
  obtain⟨rfl,rfl⟩:=hc0;clear hrow hlc hv;have hne : ∀ w,(binOp BinOp.eql 27 (.slice none 0 0) (.slice none 0 0)).run Tryz.prog w = .ok (.bool true) w:=fun _=>rfl
  change Calls _ _ #[.slice none 0 0] _ _
  go_enter Tryz.func87,Tryz.ntmps87
  go_wp2_with fail;go_ret
  exact⟨_,rfl,World.ownsRow_nil _ _ _ _,From.nil _,Chg.refl _ _⟩
 | some p=>
  have hne : ∀ w,(binOp BinOp.eql 27 (.slice (some p) l.length c) (.slice none 0 0)).run Tryz.prog w = .ok (.bool false) w:=fun _=>rfl
  have hown : (w.alloc (.cells #[] 9)).ownsRow 0 9 1 (.slice (some ⟨w.heap.size,0,none⟩) 0 0) 0 []:=⟨rfl,.inr ⟨w.heap.size,0,#[],rfl,Nat.zero_le _,heap_alloc_new w _,Nat.le_refl _,Nat.zero_le _,rfl,rfl⟩⟩;have HOWN:=zh hown;have hca:Chg [] w (w.alloc (.cells #[] 9)):=(Chg.refl _ _).alloc _;have HAT:=zh ((hrow.kept hca (by simp)).at_);have HCA:=zh hca;clear hrow hown hca hv
  go_enter Tryz.func87,Tryz.ntmps87
  go_wp2_with (at_builtin;go_must (refine wpL_append_any rfl _ _ 27 rfl 9 _ 1 16 infoStrC Tryz.underlying27 rfl (by decide) _ 0 [] rfl HOWN.out (some p) l.length c (l.map str) rfl ?_ HAT.out ?_ ?_ ?_ ?_))
  ·simp
  ·intro u hu
   simp only [List.mem_map] at hu;obtain⟨x,_,rfl⟩:=hu
   rfl
  ·omega
  ·unfold maxLen;omega
  ·intro v' w' hown' hch' hmv'
   have HO:=zh (show w'.ownsRow 0 9 1 v' l.length (l.map str) by simpa using hown');have hf:From w.heap.size v':=fun g hg=>by
    rcases hmv' g hg with h1|h1
    ·simp [blk] at h1;omega
    ·simp at h1;omega
   have HF:=zh hf;have HC:=zh (HCA.out.trans hch' (fun x hx=>.inr (by simp [blk] at hx;omega)));clear hown' hch' hmv' hf;go_wp2_with fail;go_ret
   exact⟨_,rfl,HO.out,HF.out,HC.out⟩
theorem wnames_any {w:World} {Own G:Nat→Prop} {bw:Nat} {W:Wd} (h:WAt w Own G bw W) :
  Calls Tryz.prog 45 #[ptr bw] w (fun e w'=>∃ v',e = .returned v'∧w'.ownsRow 0 9 1 v' W.order.length (W.order.map str)∧From w.heap.size v'∧Chg [] w w'):=by
 obtain⟨pv,oa,oc,hfr⟩:=h.front;have ho : w.ownsRow 0 9 1 (.slice oa W.order.length oc) W.order.length (W.order.map str):=by
  rcases hfr.at_ with⟨_,rfl,rfl,rfl⟩|⟨bp,L,pes,_,_,ho⟩
  ·exact World.ownsRow_nil _ _ _ _
  ·exact ho.2.1
 have b1:=hfr.blk.cell 1 _ rfl;have HC:=zh (clone_strs W.order (by have:=h.few;omega) _ w ho);clear h hfr ho
 go_enter Tryz.func45,Tryz.ntmps45
 go_wp2_with fail;refine HC.out.mono ?_;rintro _ w1 ⟨v',rfl,h1,h2,h3⟩;have H1:=zh h1;clear h1;go_wp2_with fail;go_ret
 exact⟨_,rfl,H1.out,h2,h3⟩
def getW (W:Wd) (q n:Nm):Option (List Int):=(W.M q).bind fun _=>W.vs q n
theorem getW_none {W:Wd} {q n:Nm} (h:W.M q=none) : getW W q n=none:=by rw [getW,h];rfl
theorem getW_some {W:Wd} {q n:Nm} {m:Mod} (h:W.M q=some m) : getW W q n=W.vs q n:=by rw [getW,h];rfl
def GotV (w:World) (o:Option (List Int)) (e:Ending) (w':World):Prop:=Chg [] w w'∧match o with
 | none=>e = .returned (.tuple #[nils,.iface 46 (num 7)])
 | some l=>∃ v,e = .returned (.tuple #[v,.nilIface])∧w'.ownsRow 0 i64T 1 v l.length (ints l)∧From w.heap.size v∧l.length≤1000
theorem wget_any {w:World} {Own G:Nat→Prop} {bw:Nat} {W:Wd} (h:WAt w Own G bw W) (q n:Nm) :
  Calls Tryz.prog 29 #[ptr bw,str q,str n] w (GotV w (getW W q n)):=by
 obtain⟨pv,oa,oc,hfr⟩:=h.front;cases hq:W.M q with
 | none=>
  obtain⟨o,hlk⟩:=front_look hfr q;rw [hq] at hlk;have hl:=hlk w (Chg.refl _ _);have b0:=hfr.blk.cell 0 _ rfl;rw [getW_none hq];clear h hfr hlk hq
  go_enter Tryz.func29,Tryz.ntmps29
  go_wp2_with fail;go_ret2
  exact⟨Chg.refl _ _,rfl⟩
 | some m=>
  obtain⟨bp,L,pes,rfl,hhas,hord⟩ : ∃ bp L pes,pv=some bp∧Has w Own G bw W L∧OrdAt w Own G bw W L bp (.slice oa W.order.length oc) pes:=by
   rcases hfr.at_ with⟨_,rfl,_⟩|h
   ·cases hq
   ·exact h
  have hqq:=hord.2.2.2.2.2.2 q;rw [hq] at hqq;obtain⟨hget,hown,bv,_,hpart⟩:=hqq;have hl:=run_getMok (P:=Tryz.prog) Tryz.underlying38 Tryz.underlying9 (zero_part w) hord.2.2.1 q;rw [hget] at hl;obtain⟨_,_,ai,ci,av,cv,ap,cp,ab,cb,bv',es,hp3,_,_,hmv,hes⟩:=hpart;have p5:=hp3.cell 5 _ rfl;have b0:=hfr.blk.cell 0 _ rfl;have hg:=run_getM (P:=Tryz.prog) Tryz.underlying99 Tryz.underlying9 (zero_ints w) hmv n;rw [hes n] at hg;have hdy:=hhas.home.dyn q n;rw [getW_some hq];cases hd:L.dim q n with
  | none=>
   rw [hd] at hdy hg;simp only at hdy;rw [hdy];have hne : ∀ w,(binOp BinOp.eql 41 (.slice none 0 0) (.slice none 0 0)).run Tryz.prog w = .ok (.bool true) w:=fun _=>rfl
   clear h hfr hhas hord hget hown hp3 hmv hes hdy hd hq
   go_enter Tryz.func29,Tryz.ntmps29
   go_wp2_with fail;go_ret2
   exact⟨Chg.refl _ _,rfl⟩
  | some x=>
   obtain⟨b,k⟩:=x;rw [hd] at hdy hg;obtain⟨l,hvs,rfl,hb⟩:=hdy;rw [hvs];have hk:=((hhas.home.lay w.heap.size (Nat.le_refl _)).arr hd).2.2;have hne : ∀ w,(binOp BinOp.eql 41 (.slice (some ⟨b,0,none⟩) l.length l.length) (.slice none 0 0)).run Tryz.prog w = .ok (.bool false) w:=fun _=>rfl
   have HC:=zh (clone_ints l (by omega) ⟨b,0,none⟩ l.length (fun _=>True) w ⟨fun _=>⟨b,0,rfl,fun i x hx=>by rw [Nat.zero_add];exact hb.cell i x (by simpa using hx)⟩,fun _ _ _=>trivial⟩);have HK:=zh hk;clear h hfr hhas hord hget hown hp3 hmv hes hd hq hb hvs hk
   go_enter Tryz.func29,Tryz.ntmps29
   go_wp2_with fail;refine HC.out.mono ?_;rintro _ w1 ⟨v',rfl,h1,h2,h3⟩;have H1:=zh h1;clear h1;go_wp2_with fail;go_ret2
   exact⟨h3,_,rfl,H1.out,h2,HK.out⟩
end Go.Proofs.YtechofppmnnomaaGreatDoor
