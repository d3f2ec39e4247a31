/- Some texts in one. -/
import Derived.Test.YtechofppmnnomaaGreatDoorB1
namespace Go.Mq.Run
open Go Go.RowKit Go.Mq Go.Mq.Tree
abbrev Nm:=List UInt8
abbrev wr (n:Int):Int:=wrap64 n
def one (b:Bool):Int:=if b then 1 else 0
def both (op:Nm) (a b:Int):Option Int:=
 if op=[43] then some (wr (a + b))
 else if op=[45] then some (wr (a - b))
 else if op=[42] then some (wr (a * b))
 else if op=[100,105,118]∨op=[109,111,100] then
  if b=0 then none else
  let q:=wr (a.tdiv b)
  let r:=a.tmod b
  let Vk:Bool:=(r != 0) && !(decide (r < 0) == decide (b < 0))
  some (if op=[100,105,118] then (if Vk then wr (q - 1) else q) else (if Vk then wr (r + b) else r))
 else if op=[61] then some (one (a == b))
 else if op=[35] then some (one (a != b))
 else if op=[60] then some (one (decide (a < b)))
 else if op=[60,61] then some (one (decide (a≤b)))
 else if op=[62] then some (one (decide (b < a)))
 else if op=[62,61] then some (one (decide (b≤a)))
 else some 0
abbrev Fr:=List (Nm × Int)
def eH:Fr→Nm→Option Int
 | [],_=>none
 | (k,u) :: r,n=>if k=n then some u else eH r n
def jX:Fr→Nm→Int→Fr
 | [],n,v=>[(n,v)]
 | (k,u) :: r,n,v=>if k=n then (k,v) :: r else (k,u) :: jX r n v
abbrev Vs:=Nm→Nm→Option (List Int)
def qa (vs:Vs) (q n:Nm) (l:List Int):Vs:=fun q' n'=>if q'=q∧n'=n then some l else vs q' n'
structure St where
 fuel:Nat
 out:List Int
 vs:Vs
inductive O (α:Type) where
 | ok (a : α) (s:St)
 | stop (way:Nat) (s:St)
 | stuck
def O.bind {α β:Type} (o:O α) (f : α→St→O β):O β:=match o with
 | .ok a s=>f a s
 | .stop w s=>.stop w s
 | .stuck=>.stuck
def tick (s:St):O Unit:=if s.fuel=0 then .stop 5 s else .ok () { s with fuel:=s.fuel - 1 }
inductive Fl where
 | go
 | ret (n:Int)
abbrev Ms:=Nm→Option Mod
structure lJ where
 e:Nat→Nm→Fr→E→St→O Int
 es:Nat→Nm→Fr→E→St→O (List Int)
 c:Nat→Nm→aX→List Int→St→O Int
 b:Nat→Nm→Fr→S→St→O (Fl × Fr)
 l:Nat→Nm→Fr→E→S→St→O (Fl × Fr)
def dC (q m:Nm):Nm:=if m=[] then q else m
def j4 (l:Option (List Int)) (k:Int) (s:St):O Int:=match l with
 | none=>.stop 3 s
 | some l=>if 0≤k∧k < l.length then .ok (l.getD k.toNat 0) s else .stop 3 s
def jv (l:Option (List Int)) (s:St):O Int:=match l with
 | some (v :: _)=>.ok v s
 | _=>.stuck
def mf (M:Ms) (F:lJ) (d:Nat) (q:Nm) (fr:Fr):E→St→O Int
 | .num _ n,s=>.ok n s
 | .var _ m n,s=>if m=[] then match eH fr n with
   | some v=>.ok v s
   | none=>jv (s.vs q n) s
  else jv (s.vs m n) s
 | .item _ m n i,s=>if (M (dC q m)).isSome then (F.e d q fr i s).bind fun k s=>j4 (s.vs (dC q m) n) k s else .stuck
 | .un _ op x,s=>(F.e d q fr x s).bind fun n s=>.ok (if op=[45] then wr (-n) else one (n == 0)) s
 | .app _ m n l,s=>match M (dC q m) with
  | none=>.stuck
  | some mo=>match mo.procs.find? fun p=>p.name == n with
   | none=>.stuck
   | some p=>(F.es d q fr l s).bind fun args s=>F.c d (dC q m) p args s
 | .bin _ op x y,s=>(F.e d q fr x s).bind fun a s=>
   if op=[97,110,100]∨op=[111,114] then
    if (a != 0)=decide (op=[111,114]) then .ok (one (a != 0)) s else (F.e d q fr y s).bind fun b s=>.ok (one (b != 0)) s
   else (F.e d q fr y s).bind fun b s=>match both op a b with
    | some n=>.ok n s
    | none=>.stop 2 s
 | .nil,_=>.stuck
 | .cons _ _,_=>.stuck
def xq (F:lJ) (d:Nat) (q:Nm) (fr:Fr):E→St→O (List Int)
 | .nil,s=>.ok [] s
 | .cons x r,s=>(F.e d q fr x s).bind fun n s=>(F.es d q fr r s).bind fun l s=>.ok (n :: l) s
 | _,_=>.stuck
def frame (p:aX) (args:List Int):Fr:=p.vars.foldl (fun f n=>jX f n 0) ((p.params.zip args).foldl (fun f x=>jX f x.1 x.2) [])
def mg (F:lJ) (d:Nat) (q:Nm) (p:aX) (args:List Int) (s:St):O Int:=
 if d=30 then .stop 4 s
 else if args.length < p.params.length then .stuck
 else (F.b (d + 1) q (frame p args) p.body s).bind fun r s=>.ok (match r.1 with | .go=>0 | .ret n=>n) s
def andThen (F:lJ) (d:Nat) (q:Nm) (r:S) (o:O (Fl × Fr)):O (Fl × Fr):=o.bind fun x s=>match x.1 with
 | .go=>F.b d q x.2 r s
 | .ret n=>.ok (.ret n,x.2) s
def jy (q:Nm) (fr:Fr) (n:Nm) (k v:Int) (s:St):O (Fl × Fr):=match eH fr n with
 | some _=>.ok (.go,jX fr n v) s
 | none=>match s.vs q n with
  | none=>.stop 3 s
  | some l=>if 0≤k∧k < l.length then .ok (.go,fr) { s with vs:=qa s.vs q n (l.set k.toNat v) } else .stop 3 s
def Gx (F:lJ) (d:Nat) (q:Nm) (fr:Fr):Option E→St→O Int
 | none,s=>.ok 0 s
 | some i,s=>F.e d q fr i s
def qh (F:lJ) (d:Nat) (q:Nm) (fr:Fr):S→St→O (Fl × Fr)
 | .nil,_=>.stuck
 | .set _ n i v _,s=>(tick s).bind fun _ s=>(Gx F d q fr i s).bind fun k s=>(F.e d q fr v s).bind fun v s=>jy q fr n k v s
 | .ifs _ v t e _,s=>(tick s).bind fun _ s=>(F.e d q fr v s).bind fun n s=>if n=0 then F.b d q fr e s else F.b d q fr t s
 | .dE _ v t _,s=>(tick s).bind fun _ s=>F.l d q fr v t s
 | .ret _ v _,s=>(tick s).bind fun _ s=>(F.e d q fr v s).bind fun n s=>.ok (.ret n,fr) s
 | .dI _ v _,s=>(tick s).bind fun _ s=>(F.e d q fr v s).bind fun n s=>if s.out.length=200 then .stop 6 s else .ok (.go,fr) { s with out:=s.out ++ [n] }
 | .call _ v _,s=>(tick s).bind fun _ s=>(F.e d q fr v s).bind fun _ s=>.ok (.go,fr) s
def rest:S→S
 | .nil=>.nil
 | .set _ _ _ _ r=>r
 | .ifs _ _ _ _ r=>r
 | .dE _ _ _ r=>r
 | .ret _ _ r=>r
 | .dI _ _ r=>r
 | .call _ _ r=>r
def oU (F:lJ) (d:Nat) (q:Nm) (fr:Fr) (x:S) (s:St):O (Fl × Fr):=if x.len=0 then .ok (.go,fr) s else andThen F d q (rest x) (qh F d q fr x s)
def zl (F:lJ) (d:Nat) (q:Nm) (fr:Fr) (v:E) (t:S) (s:St):O (Fl × Fr):=(F.e d q fr v s).bind fun n s=>
 if n=0 then .ok (.go,fr) s else (F.b d q fr t s).bind fun x s=>match x.1 with
  | .go=>(tick s).bind fun _ s=>F.l d q x.2 v t s
  | .ret n=>.ok (.ret n,x.2) s
def fns (M:Ms):Nat→lJ
 | 0=>⟨fun _ _ _ _ _=>.stuck,fun _ _ _ _ _=>.stuck,fun _ _ _ _ _=>.stuck,fun _ _ _ _ _=>.stuck,fun _ _ _ _ _ _=>.stuck⟩
 | g + 1=>⟨mf M (fns M g),xq (fns M g),mg (fns M g),oU (fns M g),zl (fns M g)⟩
def Le {α:Type} (a b:O α):Prop:=a = .stuck∨a=b
theorem Le.refl {α:Type} (a:O α):Le a a:=.inr rfl
theorem Le.stuck {α:Type} (a:O α):Le .stuck a:=.inl rfl
theorem Le.bind {α β:Type} {a b:O α} {f g : α→St→O β} (h:Le a b) (k : ∀ x s,Le (f x s) (g x s)):Le (a.bind f) (b.bind g):=by
 rcases h with rfl|rfl
 ·exact .inl rfl
 ·cases a with
  | ok x s=>exact k x s
  | stop w s=>exact .inr rfl
  | stuck=>exact .inl rfl
structure ES (F G:lJ):Prop where
 e : ∀ d q fr x s,Le (F.e d q fr x s) (G.e d q fr x s)
 es : ∀ d q fr x s,Le (F.es d q fr x s) (G.es d q fr x s)
 c : ∀ d q p a s,Le (F.c d q p a s) (G.c d q p a s)
 b : ∀ d q fr x s,Le (F.b d q fr x s) (G.b d q fr x s)
 l : ∀ d q fr v t s,Le (F.l d q fr v t s) (G.l d q fr v t s)
theorem afQ {F G:lJ} (h:ES F G) {d:Nat} {q:Nm} {r:S} {a b:O (Fl × Fr)} (k:Le a b):Le (andThen F d q r a) (andThen G d q r b):=
 k.bind fun x s=>by
  cases x.1 with
  | go=>exact h.b _ _ _ _ _
  | ret n=>exact .refl _
theorem afR {M:Ms} {F G:lJ} (h:ES F G):ES ⟨mf M F,xq F,mg F,oU F,zl F⟩ ⟨mf M G,xq G,mg G,oU G,zl G⟩ where
 e d q fr x s:=by
  cases x with
  | num p n=>exact .refl _
  | var p m n=>exact .refl _
  | item p m n i=>
   show Le (if (M (dC q m)).isSome then _ else _) (if (M (dC q m)).isSome then _ else _)
   split
   ·exact(h.e _ _ _ _ _).bind fun _ _=>.refl _
   ·exact .refl _
  | un p op x=>exact(h.e _ _ _ _ _).bind fun _ _=>.refl _
  | bin p op x y=>
   refine(h.e _ _ _ _ _).bind fun a s=>?_
   split
   ·split
    ·exact .refl _
    ·exact(h.e _ _ _ _ _).bind fun _ _=>.refl _
   ·exact(h.e _ _ _ _ _).bind fun _ _=>.refl _
  | app p m n l=>
   show Le (match M (dC q m) with
    | none=>.stuck
    | some mo=>match mo.procs.find? fun p=>p.name == n with
     | none=>.stuck
     | some p=>(F.es d q fr l s).bind fun args s=>F.c d (dC q m) p args s) (match M (dC q m) with
    | none=>.stuck
    | some mo=>match mo.procs.find? fun p=>p.name == n with
     | none=>.stuck
     | some p=>(G.es d q fr l s).bind fun args s=>G.c d (dC q m) p args s)
   cases M (dC q m) with
   | none=>exact .refl _
   | some mo=>
    simp only;cases mo.procs.find? fun p=>p.name == n with
    | none=>exact .refl _
    | some p=>exact(h.es _ _ _ _ _).bind fun a s=>h.c _ _ _ _ _
  | nil=>exact .refl _
  | cons x r=>exact .refl _
 es d q fr x s:=by
  cases x with
  | cons x r=>exact(h.e _ _ _ _ _).bind fun a s=>(h.es _ _ _ _ _).bind fun _ _=>.refl _
  | _=>exact .refl _
 c d q p a s:=by
  show Le (mg F d q p a s) (mg G d q p a s)
  unfold mg
  split
  ·exact .refl _
  ·split
   ·exact .refl _
   ·exact(h.b _ _ _ _ _).bind fun _ _=>.refl _
 b d q fr x s:=by
  show Le (oU F d q fr x s) (oU G d q fr x s)
  unfold oU
  split
  ·exact .refl _
  ·refine afQ h ?_
   cases x with
   | nil=>exact .refl _
   | set p n i v r=>
    refine(Le.refl _).bind fun _ s=>Le.bind ?_ fun k s=>(h.e _ _ _ _ _).bind fun _ _=>.refl _
    cases i with
    | none=>exact .refl _
    | some i=>exact h.e _ _ _ _ _
   | ifs p v t e r=>
    refine(Le.refl _).bind fun _ s=>(h.e _ _ _ _ _).bind fun n s=>?_
    split
    ·exact h.b _ _ _ _ _
    ·exact h.b _ _ _ _ _
   | dE p v t r=>exact(Le.refl _).bind fun _ s=>h.l _ _ _ _ _ _
   | ret p v r=>exact(Le.refl _).bind fun _ s=>(h.e _ _ _ _ _).bind fun _ _=>.refl _
   | dI p v r=>exact(Le.refl _).bind fun _ s=>(h.e _ _ _ _ _).bind fun _ _=>.refl _
   | call p v r=>exact(Le.refl _).bind fun _ s=>(h.e _ _ _ _ _).bind fun _ _=>.refl _
 l d q fr v t s:=by
  refine(h.e _ _ _ _ _).bind fun n s=>?_
  split
  ·exact .refl _
  ·refine(h.b _ _ _ _ _).bind fun x s=>?_
   cases x.1 with
   | go=>exact(Le.refl _).bind fun _ s=>h.l _ _ _ _ _ _
   | ret n=>exact .refl _
theorem Vl (M:Ms) : ∀ g,ES (fns M g) (fns M (g + 1))
 | 0=>⟨fun _ _ _ _ _=>.stuck _,fun _ _ _ _ _=>.stuck _,fun _ _ _ _ _=>.stuck _,fun _ _ _ _ _=>.stuck _,fun _ _ _ _ _ _=>.stuck _⟩
 | g + 1=>afR (Vl M g)
theorem Le.trans {α:Type} {a b c:O α} (h:Le a b) (k:Le b c):Le a c:=by
 rcases h with rfl|rfl
 ·exact .inl rfl
 ·exact k
theorem Ej (M:Ms) {g g':Nat} (h : g≤g'):ES (fns M g) (fns M g'):=by
 induction h with
 | refl=>exact⟨fun _ _ _ _ _=>.refl _,fun _ _ _ _ _=>.refl _,fun _ _ _ _ _=>.refl _,fun _ _ _ _ _=>.refl _,fun _ _ _ _ _ _=>.refl _⟩
 | @step m _ ih=>
  have k:=Vl M m;exact⟨fun _ _ _ _ _=>(ih.e _ _ _ _ _).trans (k.e _ _ _ _ _),fun _ _ _ _ _=>(ih.es _ _ _ _ _).trans (k.es _ _ _ _ _),fun _ _ _ _ _=>(ih.c _ _ _ _ _).trans (k.c _ _ _ _ _),fun _ _ _ _ _=>(ih.b _ _ _ _ _).trans (k.b _ _ _ _ _),fun _ _ _ _ _ _=>(ih.l _ _ _ _ _ _).trans (k.l _ _ _ _ _ _)⟩
end Go.Mq.Run
