/- Some texts in one. -/
import Derived.Lib.ParseIntB
import Derived.Lib.ItoaNum
import Derived.Lib.Join
import Derived.Test.YtilhhkokdfajiaaGreatDoorProg
import Derived.Lib.LaidTab
import Derived.OpenShut
import Derived.LaidLaws
import Derived.MakeChecks
import Derived.Test.YtilhhkokdfajiaaGreatDoorI0
namespace Go.Mq.Tree
open Go Go.RowKit Go.Mq
inductive Kind where
 | word
 | number
 | mark
 deriving DecidableEq
def Kind.num:Kind→Nat
 | .word=>1
 | .number=>2
 | .mark=>3
structure Tok where
 kind:Kind
 text:List UInt8
 pos:Nat
def letter (c:UInt8):Bool:=decide (97≤c.toNat) && decide (c.toNat≤122)
def digit (c:UInt8):Bool:=decide (48≤c.toNat) && decide (c.toNat≤57)
def marks:List (List UInt8):=[[58,61],[60,61],[62,61],[35],[61],[60],[62],[43],[45],[42],[40],[41],[91],[93],[44],[59],[58],[46]]
def howN (f:UInt8→Bool):List UInt8→Nat
 | []=>0
 | c :: t=>if f c then howN f t + 1 else 0
def nextK:List UInt8→Kind × Nat
 | []=>(.mark,0)
 | c :: t=>if letter c then (.word,howN (fun c=>letter c || digit c) (c :: t))
  else if digit c then (.number,howN digit (c :: t))
  else (.mark,((marks.find? fun m=>m.isPrefixOf (c :: t)).map List.length).getD 0)
inductive R (α:Type) where
 | ok (a : α) (ts:List Tok)
 | bad (e:Nat) (pos:Nat)
inductive LexR where
 | ok (ts:List Tok)
 | bad (e:Nat) (pos:Nat)
def gap (c:UInt8):Bool:=c == 32 || c == 10
def lexL:Nat→Nat→Nat→List UInt8→LexR
 | 0,_,_,_=>.ok []
 | f + 1,i,k,l=>match l with
  | []=>.ok []
  | c :: t=>if gap c then lexL f (i + 1) k t
   else if (nextK (c :: t)).2=0 then .bad 3 i
   else if k=600 then .bad 4 i
   else match lexL f (i + (nextK (c :: t)).2) (k + 1) ((c :: t).drop (nextK (c :: t)).2) with
    | .ok ts=>.ok (⟨(nextK (c :: t)).1,(c :: t).take (nextK (c :: t)).2,i⟩ :: ts)
    | .bad e p=>.bad e p
def lex (l:List UInt8):LexR:=lexL l.length 0 0 l
inductive E where
 | num (p:Nat) (n:Int)
 | var (p:Nat) (m n:List UInt8)
 | item (p:Nat) (m n:List UInt8) (i:E)
 | un (p:Nat) (op:List UInt8) (x:E)
 | bin (p:Nat) (op:List UInt8) (x y:E)
 | app (p:Nat) (m n:List UInt8) (l:E)
 | nil
 | cons (x r:E)
def E.ofList:List E→E
 | []=>.nil
 | x :: r=>.cons x (E.ofList r)
inductive S where
 | nil
 | set (p:Nat) (n:List UInt8) (i:Option E) (v:E) (r:S)
 | ifs (p:Nat) (v:E) (t e:S) (r:S)
 | whil (p:Nat) (v:E) (t:S) (r:S)
 | ret (p:Nat) (v:E) (r:S)
 | wri (p:Nat) (v:E) (r:S)
 | call (p:Nat) (v:E) (r:S)
def S.app:S→S→S
 | .nil,x=>x
 | .set p n i v r,x=>.set p n i v (r.app x)
 | .ifs p v t e r,x=>.ifs p v t e (r.app x)
 | .whil p v t r,x=>.whil p v t (r.app x)
 | .ret p v r,x=>.ret p v (r.app x)
 | .wri p v r,x=>.wri p v (r.app x)
 | .call p v r,x=>.call p v (r.app x)
def S.len:S→Nat
 | .nil=>0
 | .set _ _ _ _ r=>r.len + 1
 | .ifs _ _ _ _ r=>r.len + 1
 | .whil _ _ _ r=>r.len + 1
 | .ret _ _ r=>r.len + 1
 | .wri _ _ r=>r.len + 1
 | .call _ _ r=>r.len + 1
structure Glob where
 name:List UInt8
 pos:Nat
 len:Int
 seen:Bool
structure Proc where
 name:List UInt8
 pos:Nat
 seen:Bool
 params:List (List UInt8)
 vars:List (List UInt8)
 body:S
structure Mod where
 name:List UInt8
 imports:List (List UInt8)
 vars:List Glob
 procs:List Proc
 body:S
abbrev Ps (α:Type):=List Tok→R α
def R.bind {α β:Type} (r:R α) (f : α→Ps β):R β:=match r with
 | .ok a ts=>f a ts
 | .bad e p=>.bad e p
def hd (z:Nat):List Tok→Nat
 | []=>z
 | t :: _=>t.pos
def see (s:List UInt8):List Tok→Bool
 | []=>false
 | t :: _=>t.text == s
def skip (s:List UInt8) (ts:List Tok):List Tok:=if see s ts then ts.tail else ts
def must (z:Nat) (s:List UInt8):Ps Unit:=fun ts=>if see s ts then .ok () ts.tail else .bad 3 (hd z ts)
def keptWords:List (List UInt8):=[[109,111,100,117,108,101],[105,109,112,111,114,116],[118,97,114],[112,114,111,99],[98,101,103,105,110],[101,110,100],[105,102],[116,104,101,110],[101,108,115,105,102],[101,108,115,101],[119,104,105,108,101],[100,111],[114,101,116,117,114,110],[119,114,105,116,101],[105,110,116],[97,114,114,97,121],[111,114],[97,110,100],[110,111,116],[100,105,118],[109,111,100]]
def kept (s:List UInt8):Bool:=keptWords.contains s
def name (z:Nat):Ps (List UInt8)
 | []=>.bad 3 z
 | t :: r=>if t.kind ≠ .word∨kept t.text=true then .bad 3 t.pos else if 10 < t.text.length then .bad 4 t.pos else .ok t.text r
def number (z:Nat) (most:Int):Ps Int
 | []=>.bad 3 z
 | t :: r=>if t.kind ≠ .number then .bad 3 t.pos else match Lib.parseIntB 64 t.text with
  | .ok n=>if most < n then .bad 4 t.pos else .ok n r
  | _=>.bad 4 t.pos
def namesL (z most:Nat):Nat→List (List UInt8)→Ps (List (List UInt8))
 | 0,_,_=>.bad 0 0
 | f + 1,l,ts=>if l.length=most then .bad 4 (hd z ts) else match name z ts with
  | .bad e p=>.bad e p
  | .ok n r=>if see [44] r then namesL z most f (l ++ [n]) r.tail else .ok (l ++ [n]) r
def names (z most:Nat):Ps (List (List UInt8)):=namesL z most (most + 1) []
def levels:List (List (List UInt8)):=[[[111,114]],[[97,110,100]],[[61],[35],[60],[60,61],[62],[62,61]],[[43],[45]],[[42],[100,105,118],[109,111,100]]]
def opOf (l:List (List UInt8)) (ts:List Tok):Option (List UInt8):=l.find? fun m=>see m ts
def binL (sub:Ps E) (lv:List (List UInt8)) (p:Nat):Nat→E→Ps E
 | 0,_,_=>.bad 0 0
 | f + 1,x,ts=>match opOf lv ts with
  | none=>.ok x ts
  | some m=>match sub ts.tail with
   | .bad e q=>.bad e q
   | .ok y r=>binL sub lv p f (.bin p m x y) r
def expr (z:Nat) (base:Ps E):Nat→Ps E
 | 0=>base
 | k + 1=>fun ts=>match expr z base k ts with
  | .bad e p=>.bad e p
  | .ok x r=>binL (expr z base k) (levels.getD (4 - k) []) (hd z ts) (r.length + 1) x r
def argsL (z:Nat) (ex:Ps E):Nat→Bool→List E→Ps (List E)
 | 0,_,_,_=>.bad 0 0
 | f + 1,first,l,ts=>if see [41] ts then .ok l ts.tail else
  if first=false∧see [44] ts=false then .bad 3 (hd z ts) else match ex (if first then ts else ts.tail) with
   | .bad e p=>.bad e p
   | .ok x r=>argsL z ex f false (l ++ [x]) r
def qual (z:Nat):Ps (List UInt8 × List UInt8):=fun ts=>match name z ts with
 | .bad e p=>.bad e p
 | .ok n r=>if see [46] r then match name z r.tail with
   | .bad e p=>.bad e p
   | .ok n2 r2=>.ok (n,n2) r2
  else .ok ([],n) r
def named (z:Nat) (ex:Ps E):Ps E:=fun ts=>match qual z ts with
 | .bad e p=>.bad e p
 | .ok q r=>if see [91] r then match ex r.tail with
   | .bad e p=>.bad e p
   | .ok i r2=>match must z [93] r2 with
    | .bad e p=>.bad e p
    | .ok _ r3=>.ok (.item (hd z ts) q.1 q.2 i) r3
  else if see [40] r then match argsL z ex (r.length + 1) true [] r.tail with
   | .bad e p=>.bad e p
   | .ok l r2=>.ok (.app (hd z ts) q.1 q.2 (E.ofList l)) r2
  else .ok (.var (hd z ts) q.1 q.2) r
def one (z:Nat):Nat→Ps E
 | 0=>fun ts=>.bad 4 (hd z ts)
 | d + 1=>fun ts=>
  if see [45] ts then match one z d ts.tail with
   | .bad e p=>.bad e p
   | .ok x r=>.ok (.un (hd z ts) [45] x) r
  else if see [110,111,116] ts then match one z d ts.tail with
   | .bad e p=>.bad e p
   | .ok x r=>.ok (.un (hd z ts) [110,111,116] x) r
  else if see [40] ts then match expr z (one z d) 5 ts.tail with
   | .bad e p=>.bad e p
   | .ok x r=>match must z [41] r with
    | .bad e p=>.bad e p
    | .ok _ r2=>.ok x r2
  else match ts with
   | []=>named z (expr z (one z d) 5) ts
   | t :: _=>if t.kind = .number then match number z 9223372036854775807 ts with
     | .bad e p=>.bad e p
     | .ok n r=>.ok (.num t.pos n) r
    else named z (expr z (one z d) 5) ts
def ex0 (z:Nat):Ps E:=expr z (one z 11) 5
def first (z:Nat) (p:Nat):Ps S:=fun ts=>match named z (expr z (one z 10) 5) ts with
 | .bad e q=>.bad e q
 | .ok (.app a m n l) r=>.ok (.call p (.app a m n l) .nil) r
 | .ok (.item _ m n i) r=>if m≠[] then .bad 3 (hd z r) else match must z [58,61] r with
  | .bad e q=>.bad e q
  | .ok _ r2=>match ex0 z r2 with
   | .bad e q=>.bad e q
   | .ok v r3=>.ok (.set p n (some i) v .nil) r3
 | .ok (.var _ m n) r=>if m≠[] then .bad 3 (hd z r) else match must z [58,61] r with
  | .bad e q=>.bad e q
  | .ok _ r2=>match ex0 z r2 with
   | .bad e q=>.bad e q
   | .ok v r3=>.ok (.set p n none v .nil) r3
 | .ok _ r=>.bad 0 (hd z r)
def restL (z:Nat) (bd:Ps S) (more:Ps (E × S × S)):Ps (E × S × S):=fun ts=>match ex0 z ts with
 | .bad e p=>.bad e p
 | .ok v r=>match must z [116,104,101,110] r with
  | .bad e p=>.bad e p
  | .ok _ r2=>match bd r2 with
   | .bad e p=>.bad e p
   | .ok t r3=>if see [101,108,115,105,102] r3 then match more r3.tail with
     | .bad e p=>.bad e p
     | .ok x r4=>.ok (v,t,.ifs (hd z r3) x.1 x.2.1 x.2.2 .nil) r4
    else if see [101,108,115,101] r3 then match bd r3.tail with
     | .bad e p=>.bad e p
     | .ok e2 r4=>.ok (v,t,e2) r4
    else .ok (v,t,.nil) r3
def stmt (z:Nat) (bd:Ps S) (rest:Ps (E × S × S)):Ps S:=fun ts=>
 if see [105,102] ts then match rest ts.tail with
  | .bad e p=>.bad e p
  | .ok x r=>match must z [101,110,100] r with
   | .bad e p=>.bad e p
   | .ok _ r2=>.ok (.ifs (hd z ts) x.1 x.2.1 x.2.2 .nil) r2
 else if see [119,104,105,108,101] ts then match ex0 z ts.tail with
  | .bad e p=>.bad e p
  | .ok v r=>match must z [100,111] r with
   | .bad e p=>.bad e p
   | .ok _ r2=>match bd r2 with
    | .bad e p=>.bad e p
    | .ok t r3=>match must z [101,110,100] r3 with
     | .bad e p=>.bad e p
     | .ok _ r4=>.ok (.whil (hd z ts) v t .nil) r4
 else if see [114,101,116,117,114,110] ts then match ex0 z ts.tail with
  | .bad e p=>.bad e p
  | .ok v r=>.ok (.ret (hd z ts) v .nil) r
 else if see [119,114,105,116,101] ts then match ex0 z ts.tail with
  | .bad e p=>.bad e p
  | .ok v r=>.ok (.wri (hd z ts) v .nil) r
 else first z (hd z ts) ts
def bodyL (z:Nat) (st:Ps S):Nat→S→Ps S
 | 0,_,_=>.bad 0 0
 | f + 1,l,ts=>if see [101,110,100] ts || see [101,108,115,101] ts || see [101,108,115,105,102] ts then .ok l ts else match st ts with
  | .bad e p=>.bad e p
  | .ok s r=>match must z [59] r with
   | .bad e p=>.bad e p
   | .ok _ r2=>bodyL z st f (l.app s) r2
def bodies (z:Nat):Nat→Ps S × Ps (E × S × S)
 | 0=>(fun ts=>.bad 4 (hd z ts),fun ts=>.bad 4 (hd z ts))
 | d + 1=>(fun ts=>bodyL z (stmt z (bodies z d).1 (restL z (bodies z d).1 (bodies z d).2)) (ts.length + 1) .nil ts,restL z (bodies z d).1 (bodies z d).2)
def body0 (z:Nat):Ps S:=(bodies z 11).1
def kindOf (z:Nat):Ps Int:=fun ts=>if see [97,114,114,97,121] ts then match number z 30 ts.tail with
  | .bad e p=>.bad e p
  | .ok n r=>if n=0 then .bad 2 (hd z r) else .ok n r
 else match must z [105,110,116] ts with
  | .bad e p=>.bad e p
  | .ok _ r=>.ok 0 r
def glob (z:Nat):Ps Glob:=fun ts=>match name z ts with
 | .bad e p=>.bad e p
 | .ok n r=>match must z [58] (skip [42] r) with
  | .bad e p=>.bad e p
  | .ok _ r2=>match kindOf z r2 with
   | .bad e p=>.bad e p
   | .ok k r3=>match must z [59] r3 with
    | .bad e p=>.bad e p
    | .ok _ r4=>.ok ⟨n,hd z ts,k,see [42] r⟩ r4
def varsL (z:Nat):Nat→List Glob→Ps (List Glob)
 | 0,_,_=>.bad 0 0
 | f + 1,l,ts=>if see [118,97,114] ts then (if l.length=10 then .bad 4 (hd z ts.tail) else match glob z ts.tail with
   | .bad e p=>.bad e p
   | .ok g r=>varsL z f (l ++ [g]) r)
  else .ok l ts
def params (z:Nat):Ps (List (List UInt8)):=fun ts=>if see [41] ts then .ok [] ts.tail else match names z 10 ts with
 | .bad e p=>.bad e p
 | .ok l r=>match must z [41] r with
  | .bad e p=>.bad e p
  | .ok _ r2=>.ok l r2
def locals (z most:Nat):Ps (List (List UInt8)):=fun ts=>if see [118,97,114] ts then match names z most ts.tail with
  | .bad e p=>.bad e p
  | .ok l r=>match must z [59] r with
   | .bad e p=>.bad e p
   | .ok _ r2=>.ok l r2
 else .ok [] ts
def block (z:Nat) (m:List UInt8):Ps S:=fun ts=>match must z [98,101,103,105,110] ts with
 | .bad e p=>.bad e p
 | .ok _ r=>match body0 z r with
  | .bad e p=>.bad e p
  | .ok b r2=>match must z [101,110,100] r2 with
   | .bad e p=>.bad e p
   | .ok _ r3=>match must z m r3 with
    | .bad e p=>.bad e p
    | .ok _ r4=>.ok b r4
def proc (z:Nat):Ps Proc:=fun ts=>match must z [112,114,111,99] ts with
 | .bad e p=>.bad e p
 | .ok _ r=>match name z r with
  | .bad e p=>.bad e p
  | .ok n r2=>match must z [40] (skip [42] r2) with
   | .bad e p=>.bad e p
   | .ok _ r3=>match params z r3 with
    | .bad e p=>.bad e p
    | .ok ps r4=>match must z [59] r4 with
     | .bad e p=>.bad e p
     | .ok _ r5=>match locals z (10 - ps.length) r5 with
      | .bad e p=>.bad e p
      | .ok vs r6=>match block z [59] r6 with
       | .bad e p=>.bad e p
       | .ok b r7=>.ok ⟨n,hd z ts,see [42] r2,ps,vs,b⟩ r7
def procsL (z:Nat):Nat→List Proc→Ps (List Proc)
 | 0,_,_=>.bad 0 0
 | f + 1,l,ts=>if see [112,114,111,99] ts then (if l.length=10 then .bad 4 (hd z ts) else match proc z ts with
   | .bad e p=>.bad e p
   | .ok x r=>procsL z f (l ++ [x]) r)
  else .ok l ts
def imports (z:Nat):Ps (List (List UInt8)):=fun ts=>if see [105,109,112,111,114,116] ts then match names z 6 ts.tail with
  | .bad e p=>.bad e p
  | .ok l r=>match must z [59] r with
   | .bad e p=>.bad e p
   | .ok _ r2=>.ok l r2
 else .ok [] ts
def module_ (z:Nat):Ps Mod:=fun ts=>match must z [109,111,100,117,108,101] ts with
 | .bad e p=>.bad e p
 | .ok _ r=>match name z r with
  | .bad e p=>.bad e p
  | .ok n r2=>match must z [59] r2 with
   | .bad e p=>.bad e p
   | .ok _ r3=>match imports z r3 with
    | .bad e p=>.bad e p
    | .ok is r4=>match varsL z 11 [] r4 with
     | .bad e p=>.bad e p
     | .ok vs r5=>match procsL z 11 [] r5 with
      | .bad e p=>.bad e p
      | .ok ps r6=>match block z [46] r6 with
       | .bad e p=>.bad e p
       | .ok b r7=>.ok ⟨n,is,vs,ps,b⟩ r7
inductive Res where
 | ok (m:Mod)
 | bad (e:Nat) (pos:Nat)
def parse (l:List UInt8):Res:=match lex l with
 | .bad e p=>.bad e p
 | .ok ts=>match module_ l.length ts with
  | .bad e p=>.bad e p
  | .ok m []=>.ok m
  | .ok _ (t :: _)=>.bad 3 t.pos
def opLevel (op:List UInt8):Nat:=(levels.findIdx? fun l=>l.contains op).getD 0
def lvl:E→Nat
 | .bin _ op _ _=>opLevel op
 | _=>5
def within (least:Nat) (x:E) (t:List UInt8):List UInt8:=if least≤lvl x then t else [40] ++ t ++ [41]
def qualT (m n:List UInt8):List UInt8:=if m=[] then n else m ++ [46] ++ n
def text:E→List UInt8
 | .num _ n=>Lib.itoa n
 | .var _ m n=>qualT m n
 | .item _ m n i=>qualT m n ++ [91] ++ text i ++ [93]
 | .un _ op x=>(if op=[110,111,116] then [110,111,116,32] else [45]) ++ within 5 x (text x)
 | .bin _ op x y=>within (opLevel op) x (text x) ++ [32] ++ op ++ [32] ++ within (opLevel op + 1) y (text y)
 | .app _ m n l=>qualT m n ++ [40] ++ text l ++ [41]
 | .nil=>[]
 | .cons x .nil=>text x
 | .cons x r=>text x ++ [44,32] ++ text r
def S.isNil:S→Bool
 | .nil=>true
 | _=>false
end Go.Mq.Tree
namespace Go.Mq.Tree
open Go Go.RowKit Go.Mq
abbrev str (l:List UInt8):Value:=.string (bs l)
abbrev ptr (b:Nat):Value:=.pointer (some ⟨b,0,none⟩)
abbrev nilp:Value:=.pointer none
abbrev nils:Value:=.slice none 0 0
def Tok.cells (t:Tok):List Value:=[.int .i64 t.kind.num,str t.text,.int .i64 t.pos]
def toksCells (z:Nat):List Tok→List Value
 | []=>[.int .i64 4,str [],.int .i64 z]
 | t :: r=>t.cells ++ toksCells z r
structure Row (w:World) (F:Nat→Prop) (a:Option Addr) (cs:List Value):Prop where
 at_:At w a cs
 own : 0 < cs.length → ∀ p,a=some p→F p.block
theorem Row.kept {S:List Nat} {w w':World} {F:Nat→Prop} {a:Option Addr} {cs:List Value} (h:Row w F a cs) (hc:Chg S w w') (hS : ∀ x∈S,¬ F x):Row w' F a cs:=
 ⟨fun h0=>(h.at_.kept hc fun p hp hm=>hS _ hm (h.own h0 p hp)) h0,h.own⟩
theorem Row.mono {w:World} {F G:Nat→Prop} {a:Option Addr} {cs:List Value} (h:Row w F a cs) (hF : ∀ x,F x→G x):Row w G a cs:=⟨h.at_,fun h0 p hp=>hF _ (h.own h0 p hp)⟩
theorem Row.nil (w:World) (F:Nat→Prop) (a:Option Addr):Row w F a []:=⟨fun h=>by simp at h,fun h=>by simp at h⟩
theorem Row.of_owns {w:World} {e:TypeId} {size n:Nat} {v:Value} {xs:List Value} {F:Nat→Prop} (h : w.ownsRow 0 e size v n xs) (hF : ∀ g∈blk v,F g) : ∃ a c,v = .slice a n c∧n≤c∧Row w F a xs:=by
 rcases h.2 with ⟨rfl,rfl⟩ | ⟨g,cap,cur,rfl,_,hg,hnc,_,_,htake⟩
 ·have hx : xs=[]:=List.eq_nil_of_length_eq_zero (by simpa using h.1)
  subst hx
  exact ⟨none,0,rfl,Nat.le_refl _,Row.nil _ _ _⟩
 ·refine ⟨_,cap,rfl,hnc,fun _=>⟨g,0,rfl,fun i x hx=>?_⟩,fun _ p hp=>by cases hp; exact hF g (by simp [blk])⟩
  have hc:=h.cells (g:=g) rfl i x hx
  cases i <;> simpa [Addr.add] using hc
def EAt (w:World) (F:Nat→Prop):E→List Value→Prop
 | .num p n,us=>∃ b,us=[ptr b]∧F b∧Blk w b #[.int .i64 1,.int .i64 p,.int .i64 n,str [],str [],str [],nilp,nilp,nils] 83
 | .var p m n,us=>∃ b,us=[ptr b]∧F b∧Blk w b #[.int .i64 2,.int .i64 p,.int .i64 0,str m,str n,str [],nilp,nilp,nils] 83
 | .item p m n i,us=>∃ b u,us=[ptr b]∧F b∧Blk w b #[.int .i64 3,.int .i64 p,.int .i64 0,str m,str n,str [],u,nilp,nils] 83∧EAt w F i [u]
 | .un p op x,us=>∃ b u,us=[ptr b]∧F b∧Blk w b #[.int .i64 4,.int .i64 p,.int .i64 0,str [],str [],str op,u,nilp,nils] 83∧EAt w F x [u]
 | .bin p op x y,us=>∃ b u v,us=[ptr b]∧F b∧Blk w b #[.int .i64 5,.int .i64 p,.int .i64 0,str [],str [],str op,u,v,nils] 83∧EAt w F x [u]∧EAt w F y [v]
 | .app p m n l,us=>∃ b a c vs,us=[ptr b]∧F b∧Blk w b #[.int .i64 6,.int .i64 p,.int .i64 0,str m,str n,str [],nilp,nilp,.slice a vs.length c] 83∧vs.length≤c∧Row w F a vs∧EAt w F l vs
 | .nil,us=>us=[]
 | .cons x r,us=>∃ u vs,us=u :: vs∧EAt w F x [u]∧EAt w F r vs
theorem EAt.mono {w:World} {F G:Nat→Prop} (hF : ∀ x,F x→G x) {e:E} : ∀ {us:List Value},EAt w F e us→EAt w G e us:=by
 induction e with
 | num p n=>rintro us ⟨b,h1,h2,h3⟩; exact ⟨b,h1,hF _ h2,h3⟩
 | var p m n=>rintro us ⟨b,h1,h2,h3⟩; exact ⟨b,h1,hF _ h2,h3⟩
 | item p m n i ih=>rintro us ⟨b,u,h1,h2,h3,h4⟩; exact ⟨b,u,h1,hF _ h2,h3,ih h4⟩
 | un p op x ih=>rintro us ⟨b,u,h1,h2,h3,h4⟩; exact ⟨b,u,h1,hF _ h2,h3,ih h4⟩
 | bin p op x y ih1 ih2=>rintro us ⟨b,u,v,h1,h2,h3,h4,h5⟩; exact ⟨b,u,v,h1,hF _ h2,h3,ih1 h4,ih2 h5⟩
 | app p m n l ih=>rintro us ⟨b,a,c,vs,h1,h2,h3,h4,h5,h6⟩; exact ⟨b,a,c,vs,h1,hF _ h2,h3,h4,h5.mono hF,ih h6⟩
 | nil=>exact fun h=>h
 | cons x r ih1 ih2=>rintro us ⟨u,vs,h1,h2,h3⟩; exact ⟨u,vs,h1,ih1 h2,ih2 h3⟩
theorem EAt.kept {S:List Nat} {w w':World} {F:Nat→Prop} (hc:Chg S w w') (hS : ∀ x∈S,¬ F x) {e:E} : ∀ {us:List Value},EAt w F e us→EAt w' F e us:=by
 have kb : ∀ {b:Nat} {cs:Array Value} {t:TypeId},F b→Blk w b cs t→Blk w' b cs t:=fun hb h=>h.kept hc fun hm=>hS _ hm hb
 induction e with
 | num p n=>rintro us ⟨b,h1,h2,h3⟩; exact ⟨b,h1,h2,kb h2 h3⟩
 | var p m n=>rintro us ⟨b,h1,h2,h3⟩; exact ⟨b,h1,h2,kb h2 h3⟩
 | item p m n i ih=>rintro us ⟨b,u,h1,h2,h3,h4⟩; exact ⟨b,u,h1,h2,kb h2 h3,ih h4⟩
 | un p op x ih=>rintro us ⟨b,u,h1,h2,h3,h4⟩; exact ⟨b,u,h1,h2,kb h2 h3,ih h4⟩
 | bin p op x y ih1 ih2=>rintro us ⟨b,u,v,h1,h2,h3,h4,h5⟩; exact ⟨b,u,v,h1,h2,kb h2 h3,ih1 h4,ih2 h5⟩
 | app p m n l ih=>rintro us ⟨b,a,c,vs,h1,h2,h3,h4,h5,h6⟩; exact ⟨b,a,c,vs,h1,h2,kb h2 h3,h4,h5.kept hc hS,ih h6⟩
 | nil=>exact fun h=>h
 | cons x r ih1 ih2=>rintro us ⟨u,vs,h1,h2,h3⟩; exact ⟨u,vs,h1,ih1 h2,ih2 h3⟩
def EsAt (w:World) (F:Nat→Prop):List E→List Value→Prop
 | [],us=>us=[]
 | x :: r,us=>∃ u vs,us=u :: vs∧EAt w F x [u]∧EsAt w F r vs
theorem EsAt.one {w:World} {F:Nat→Prop} {l:List E} {us:List Value} (h:EsAt w F l us):EAt w F (E.ofList l) us:=by
 induction l generalizing us with
 | nil=>exact h
 | cons x r ih=>obtain ⟨u,vs,h1,h2,h3⟩:=h; exact ⟨u,vs,h1,h2,ih h3⟩
theorem EsAt.len {w:World} {F:Nat→Prop} {l:List E} {us:List Value} (h:EsAt w F l us) : us.length=l.length:=by
 induction l generalizing us with
 | nil=>rw [show us=[] from h]; rfl
 | cons x r ih=>obtain ⟨u,vs,rfl,_,h3⟩:=h; simp [ih h3]
theorem EsAt.snoc {w:World} {F:Nat→Prop} {l:List E} {us:List Value} {x:E} {u:Value} (h:EsAt w F l us) (hx:EAt w F x [u]):EsAt w F (l ++ [x]) (us ++ [u]):=by
 induction l generalizing us with
 | nil=>rw [show us=[] from h]; exact ⟨u,[],rfl,hx,rfl⟩
 | cons y r ih=>obtain ⟨v,vs,rfl,h2,h3⟩:=h; exact ⟨v,vs ++ [u],rfl,h2,ih h3⟩
theorem EsAt.mono {w:World} {F G:Nat→Prop} (hF : ∀ x,F x→G x) {l:List E} {us:List Value} (h:EsAt w F l us):EsAt w G l us:=by
 induction l generalizing us with
 | nil=>exact h
 | cons x r ih=>obtain ⟨u,vs,h1,h2,h3⟩:=h; exact ⟨u,vs,h1,h2.mono hF,ih h3⟩
theorem EsAt.kept {S:List Nat} {w w':World} {F:Nat→Prop} (hc:Chg S w w') (hS : ∀ x∈S,¬ F x) {l:List E} {us:List Value} (h:EsAt w F l us):EsAt w' F l us:=by
 induction l generalizing us with
 | nil=>exact h
 | cons x r ih=>obtain ⟨u,vs,h1,h2,h3⟩:=h; exact ⟨u,vs,h1,h2.kept hc hS,ih h3⟩
def OptAt (w:World) (F:Nat→Prop):Option E→Value→Prop
 | none,u=>u=nilp
 | some x,u=>EAt w F x [u]
theorem OptAt.mono {w:World} {F G:Nat→Prop} (hF : ∀ x,F x→G x) {i:Option E} {u:Value} (h:OptAt w F i u):OptAt w G i u:=by
 cases i with
 | none=>exact h
 | some x=>exact EAt.mono hF h
theorem OptAt.kept {S:List Nat} {w w':World} {F:Nat→Prop} (hc:Chg S w w') (hS : ∀ x∈S,¬ F x) {i:Option E} {u:Value} (h:OptAt w F i u):OptAt w' F i u:=by
 cases i with
 | none=>exact h
 | some x=>exact EAt.kept hc hS h
def SAt (w:World) (F:Nat→Prop):S→List Value→Prop
 | .nil,cs=>cs=[]
 | .set p n i v r,cs=>∃ ui uv cs',cs = .int .i64 1 :: .int .i64 p :: str n :: ui :: uv :: nils :: nils :: cs'∧OptAt w F i ui∧EAt w F v [uv]∧SAt w F r cs'
 | .ifs p v t e r,cs=>∃ uv a1 c1 ts a2 c2 es cs',cs = .int .i64 2 :: .int .i64 p :: str [] :: nilp :: uv :: .slice a1 t.len c1 :: .slice a2 e.len c2 :: cs'∧EAt w F v [uv] ∧
   t.len≤c1∧Row w F a1 ts∧SAt w F t ts∧e.len≤c2∧Row w F a2 es∧SAt w F e es∧SAt w F r cs'
 | .whil p v t r,cs=>∃ uv a1 c1 ts cs',cs = .int .i64 3 :: .int .i64 p :: str [] :: nilp :: uv :: .slice a1 t.len c1 :: nils :: cs'∧EAt w F v [uv]∧t.len≤c1∧Row w F a1 ts∧SAt w F t ts∧SAt w F r cs'
 | .ret p v r,cs=>∃ uv cs',cs = .int .i64 4 :: .int .i64 p :: str [] :: nilp :: uv :: nils :: nils :: cs'∧EAt w F v [uv]∧SAt w F r cs'
 | .wri p v r,cs=>∃ uv cs',cs = .int .i64 5 :: .int .i64 p :: str [] :: nilp :: uv :: nils :: nils :: cs'∧EAt w F v [uv]∧SAt w F r cs'
 | .call p v r,cs=>∃ uv cs',cs = .int .i64 6 :: .int .i64 p :: str [] :: nilp :: uv :: nils :: nils :: cs'∧EAt w F v [uv]∧SAt w F r cs'
theorem SAt.mono {w:World} {F G:Nat→Prop} (hF : ∀ x,F x→G x) {s:S} : ∀ {cs:List Value},SAt w F s cs→SAt w G s cs:=by
 induction s with
 | nil=>exact fun h=>h
 | set p n i v r ih=>rintro cs ⟨ui,uv,cs',h1,h2,h3,h4⟩; exact ⟨ui,uv,cs',h1,h2.mono hF,h3.mono hF,ih h4⟩
 | ifs p v t e r ih1 ih2 ih3=>rintro cs ⟨uv,a1,c1,ts,a2,c2,es,cs',h1,h2,h3,h4,h5,h6,h7,h8,h9⟩; exact ⟨uv,a1,c1,ts,a2,c2,es,cs',h1,h2.mono hF,h3,h4.mono hF,ih1 h5,h6,h7.mono hF,ih2 h8,ih3 h9⟩
 | whil p v t r ih1 ih2=>rintro cs ⟨uv,a1,c1,ts,cs',h1,h2,h3,h4,h5,h6⟩; exact ⟨uv,a1,c1,ts,cs',h1,h2.mono hF,h3,h4.mono hF,ih1 h5,ih2 h6⟩
 | ret p v r ih=>rintro cs ⟨uv,cs',h1,h2,h3⟩; exact ⟨uv,cs',h1,h2.mono hF,ih h3⟩
 | wri p v r ih=>rintro cs ⟨uv,cs',h1,h2,h3⟩; exact ⟨uv,cs',h1,h2.mono hF,ih h3⟩
 | call p v r ih=>rintro cs ⟨uv,cs',h1,h2,h3⟩; exact ⟨uv,cs',h1,h2.mono hF,ih h3⟩
theorem SAt.kept {S':List Nat} {w w':World} {F:Nat→Prop} (hc:Chg S' w w') (hS : ∀ x∈S',¬ F x) {s:S} : ∀ {cs:List Value},SAt w F s cs→SAt w' F s cs:=by
 induction s with
 | nil=>exact fun h=>h
 | set p n i v r ih=>rintro cs ⟨ui,uv,cs',h1,h2,h3,h4⟩; exact ⟨ui,uv,cs',h1,h2.kept hc hS,h3.kept hc hS,ih h4⟩
 | ifs p v t e r ih1 ih2 ih3=>rintro cs ⟨uv,a1,c1,ts,a2,c2,es,cs',h1,h2,h3,h4,h5,h6,h7,h8,h9⟩; exact ⟨uv,a1,c1,ts,a2,c2,es,cs',h1,h2.kept hc hS,h3,h4.kept hc hS,ih1 h5,h6,h7.kept hc hS,ih2 h8,ih3 h9⟩
 | whil p v t r ih1 ih2=>rintro cs ⟨uv,a1,c1,ts,cs',h1,h2,h3,h4,h5,h6⟩; exact ⟨uv,a1,c1,ts,cs',h1,h2.kept hc hS,h3,h4.kept hc hS,ih1 h5,ih2 h6⟩
 | ret p v r ih=>rintro cs ⟨uv,cs',h1,h2,h3⟩; exact ⟨uv,cs',h1,h2.kept hc hS,ih h3⟩
 | wri p v r ih=>rintro cs ⟨uv,cs',h1,h2,h3⟩; exact ⟨uv,cs',h1,h2.kept hc hS,ih h3⟩
 | call p v r ih=>rintro cs ⟨uv,cs',h1,h2,h3⟩; exact ⟨uv,cs',h1,h2.kept hc hS,ih h3⟩
theorem SAt.len {w:World} {F:Nat→Prop} {s:S} : ∀ {cs:List Value},SAt w F s cs→cs.length=s.len * 7:=by
 induction s with
 | nil=>intro cs h; rw [show cs=[] from h]; rfl
 | set p n i v r ih=>rintro cs ⟨ui,uv,cs',rfl,h2,h3,h4⟩; simp [S.len,ih h4]; omega
 | ifs p v t e r ih1 ih2 ih3=>rintro cs ⟨uv,a1,c1,ts,a2,c2,es,cs',rfl,h2,h3,h4,h5,h6,h7,h8,h9⟩; simp [S.len,ih3 h9]; omega
 | whil p v t r ih1 ih2=>rintro cs ⟨uv,a1,c1,ts,cs',rfl,h2,h3,h4,h5,h6⟩; simp [S.len,ih2 h6]; omega
 | ret p v r ih=>rintro cs ⟨uv,cs',rfl,h2,h3⟩; simp [S.len,ih h3]; omega
 | wri p v r ih=>rintro cs ⟨uv,cs',rfl,h2,h3⟩; simp [S.len,ih h3]; omega
 | call p v r ih=>rintro cs ⟨uv,cs',rfl,h2,h3⟩; simp [S.len,ih h3]; omega
theorem SAt.append {w:World} {F:Nat→Prop} {s s2:S} {cs2:List Value} (k:SAt w F s2 cs2) : ∀ {cs:List Value},SAt w F s cs→SAt w F (s.app s2) (cs ++ cs2):=by
 induction s with
 | nil=>intro cs h; rw [show cs=[] from h]; exact k
 | set p n i v r ih=>rintro cs ⟨ui,uv,cs',rfl,h2,h3,h4⟩; exact ⟨ui,uv,cs' ++ cs2,rfl,h2,h3,ih h4⟩
 | ifs p v t e r ih1 ih2 ih3=>rintro cs ⟨uv,a1,c1,ts,a2,c2,es,cs',rfl,h2,h3,h4,h5,h6,h7,h8,h9⟩; exact ⟨uv,a1,c1,ts,a2,c2,es,cs' ++ cs2,rfl,h2,h3,h4,h5,h6,h7,h8,ih3 h9⟩
 | whil p v t r ih1 ih2=>rintro cs ⟨uv,a1,c1,ts,cs',rfl,h2,h3,h4,h5,h6⟩; exact ⟨uv,a1,c1,ts,cs' ++ cs2,rfl,h2,h3,h4,h5,ih2 h6⟩
 | ret p v r ih=>rintro cs ⟨uv,cs',rfl,h2,h3⟩; exact ⟨uv,cs' ++ cs2,rfl,h2,ih h3⟩
 | wri p v r ih=>rintro cs ⟨uv,cs',rfl,h2,h3⟩; exact ⟨uv,cs' ++ cs2,rfl,h2,ih h3⟩
 | call p v r ih=>rintro cs ⟨uv,cs',rfl,h2,h3⟩; exact ⟨uv,cs' ++ cs2,rfl,h2,ih h3⟩
theorem S.app_len (s s2:S) : (s.app s2).len=s.len + s2.len:=by
 induction s with
 | nil=>simp [S.app,S.len]
 | set p n i v r ih=>simp [S.app,S.len,ih]; omega
 | ifs p v t e r ih1 ih2 ih3=>simp [S.app,S.len,ih3]; omega
 | whil p v t r ih1 ih2=>simp [S.app,S.len,ih2]; omega
 | ret p v r ih=>simp [S.app,S.len,ih]; omega
 | wri p v r ih=>simp [S.app,S.len,ih]; omega
 | call p v r ih=>simp [S.app,S.len,ih]; omega
def SlAt (w:World) (F:Nat→Prop) (s:S) (v:Value):Prop:=∃ a c cs,v = .slice a s.len c∧s.len≤c∧Row w F a cs∧SAt w F s cs
def NamesAt (w:World) (F:Nat→Prop) (l:List (List UInt8)) (v:Value):Prop:=∃ a c,v = .slice a l.length c∧l.length≤c∧Row w F a (l.map str)
def Glob.cells (g:Glob):List Value:=[str g.name,.int .i64 g.pos,.int .i64 g.len,.bool g.seen]
def GlobsAt (w:World) (F:Nat→Prop) (l:List Glob) (v:Value):Prop:=∃ a c,v = .slice a l.length c∧l.length≤c∧Row w F a (l.flatMap Glob.cells)
def PrAt (w:World) (F:Nat→Prop) (x:Proc) (cs:List Value):Prop:=∃ vp vv vb,cs=[str x.name,.int .i64 x.pos,.bool x.seen,vp,vv,vb]∧NamesAt w F x.params vp∧NamesAt w F x.vars vv∧SlAt w F x.body vb
def PrsAt (w:World) (F:Nat→Prop):List Proc→List Value→Prop
 | [],cs=>cs=[]
 | x :: r,cs=>∃ c1 c2,cs=c1 ++ c2∧PrAt w F x c1∧PrsAt w F r c2
def ProcsAt (w:World) (F:Nat→Prop) (l:List Proc) (v:Value):Prop:=∃ a c cs,v = .slice a l.length c∧l.length≤c∧Row w F a cs∧PrsAt w F l cs
def ModAt (w:World) (F:Nat→Prop) (m:Mod) (v:Value):Prop:=∃ vi vv vp vb,v = .agg #[str m.name,vi,vv,vp,vb]∧NamesAt w F m.imports vi∧GlobsAt w F m.vars vv∧ProcsAt w F m.procs vp∧SlAt w F m.body vb
section
variable {w w':World} {F G:Nat→Prop} {Z:List Nat}
theorem SlAt.mono (hF : ∀ x,F x→G x) {s:S} {v:Value} (h:SlAt w F s v):SlAt w G s v:=by
 obtain ⟨a,c,cs,h1,h2,h3,h4⟩:=h; exact ⟨a,c,cs,h1,h2,h3.mono hF,h4.mono hF⟩
theorem SlAt.kept (hc:Chg Z w w') (hS : ∀ x∈Z,¬ F x) {s:S} {v:Value} (h:SlAt w F s v):SlAt w' F s v:=by
 obtain ⟨a,c,cs,h1,h2,h3,h4⟩:=h; exact ⟨a,c,cs,h1,h2,h3.kept hc hS,h4.kept hc hS⟩
theorem NamesAt.mono (hF : ∀ x,F x→G x) {l:List (List UInt8)} {v:Value} (h:NamesAt w F l v):NamesAt w G l v:=by
 obtain ⟨a,c,h1,h2,h3⟩:=h; exact ⟨a,c,h1,h2,h3.mono hF⟩
theorem NamesAt.kept (hc:Chg Z w w') (hS : ∀ x∈Z,¬ F x) {l:List (List UInt8)} {v:Value} (h:NamesAt w F l v):NamesAt w' F l v:=by
 obtain ⟨a,c,h1,h2,h3⟩:=h; exact ⟨a,c,h1,h2,h3.kept hc hS⟩
theorem NamesAt.nil:NamesAt w F [] nils:=⟨none,0,rfl,Nat.le_refl _,Row.nil _ _ _⟩
theorem GlobsAt.mono (hF : ∀ x,F x→G x) {l:List Glob} {v:Value} (h:GlobsAt w F l v):GlobsAt w G l v:=by
 obtain ⟨a,c,h1,h2,h3⟩:=h; exact ⟨a,c,h1,h2,h3.mono hF⟩
theorem GlobsAt.kept (hc:Chg Z w w') (hS : ∀ x∈Z,¬ F x) {l:List Glob} {v:Value} (h:GlobsAt w F l v):GlobsAt w' F l v:=by
 obtain ⟨a,c,h1,h2,h3⟩:=h; exact ⟨a,c,h1,h2,h3.kept hc hS⟩
theorem PrAt.mono (hF : ∀ x,F x→G x) {x:Proc} {cs:List Value} (h:PrAt w F x cs):PrAt w G x cs:=by
 obtain ⟨vp,vv,vb,h1,h2,h3,h4⟩:=h; exact ⟨vp,vv,vb,h1,h2.mono hF,h3.mono hF,h4.mono hF⟩
theorem PrAt.kept (hc:Chg Z w w') (hS : ∀ x∈Z,¬ F x) {x:Proc} {cs:List Value} (h:PrAt w F x cs):PrAt w' F x cs:=by
 obtain ⟨vp,vv,vb,h1,h2,h3,h4⟩:=h; exact ⟨vp,vv,vb,h1,h2.kept hc hS,h3.kept hc hS,h4.kept hc hS⟩
theorem PrsAt.mono (hF : ∀ x,F x→G x) {l:List Proc} {cs:List Value} (h:PrsAt w F l cs):PrsAt w G l cs:=by
 induction l generalizing cs with
 | nil=>exact h
 | cons x r ih=>obtain ⟨c1,c2,h1,h2,h3⟩:=h; exact ⟨c1,c2,h1,h2.mono hF,ih h3⟩
theorem PrsAt.kept (hc:Chg Z w w') (hS : ∀ x∈Z,¬ F x) {l:List Proc} {cs:List Value} (h:PrsAt w F l cs):PrsAt w' F l cs:=by
 induction l generalizing cs with
 | nil=>exact h
 | cons x r ih=>obtain ⟨c1,c2,h1,h2,h3⟩:=h; exact ⟨c1,c2,h1,h2.kept hc hS,ih h3⟩
theorem PrsAt.snoc {l:List Proc} {cs:List Value} {x:Proc} {c:List Value} (h:PrsAt w F l cs) (hx:PrAt w F x c):PrsAt w F (l ++ [x]) (cs ++ c):=by
 induction l generalizing cs with
 | nil=>rw [show cs=[] from h]; exact ⟨c,[],by simp,hx,rfl⟩
 | cons y r ih=>obtain ⟨c1,c2,rfl,h2,h3⟩:=h; exact ⟨c1,c2 ++ c,by simp,h2,ih h3⟩
theorem PrsAt.len {l:List Proc} {cs:List Value} (h:PrsAt w F l cs) : cs.length=l.length * 6:=by
 induction l generalizing cs with
 | nil=>rw [show cs=[] from h]; rfl
 | cons y r ih=>obtain ⟨c1,c2,rfl,⟨_,_,_,rfl,_⟩,h3⟩:=h; simp [ih h3]; omega
theorem ProcsAt.mono (hF : ∀ x,F x→G x) {l:List Proc} {v:Value} (h:ProcsAt w F l v):ProcsAt w G l v:=by
 obtain ⟨a,c,cs,h1,h2,h3,h4⟩:=h; exact ⟨a,c,cs,h1,h2,h3.mono hF,h4.mono hF⟩
theorem ProcsAt.kept (hc:Chg Z w w') (hS : ∀ x∈Z,¬ F x) {l:List Proc} {v:Value} (h:ProcsAt w F l v):ProcsAt w' F l v:=by
 obtain ⟨a,c,cs,h1,h2,h3,h4⟩:=h; exact ⟨a,c,cs,h1,h2,h3.kept hc hS,h4.kept hc hS⟩
theorem ModAt.mono (hF : ∀ x,F x→G x) {m:Mod} {v:Value} (h:ModAt w F m v):ModAt w G m v:=by
 obtain ⟨vi,vv,vp,vb,h1,h2,h3,h4,h5⟩:=h; exact ⟨vi,vv,vp,vb,h1,h2.mono hF,h3.mono hF,h4.mono hF,h5.mono hF⟩
theorem ModAt.kept (hc:Chg Z w w') (hS : ∀ x∈Z,¬ F x) {m:Mod} {v:Value} (h:ModAt w F m v):ModAt w' F m v:=by
 obtain ⟨vi,vv,vp,vb,h1,h2,h3,h4,h5⟩:=h; exact ⟨vi,vv,vp,vb,h1,h2.kept hc hS,h3.kept hc hS,h4.kept hc hS,h5.kept hc hS⟩
end
structure Laid (w:World) (B:Nat):Prop where
 le:B≤w.heap.size
 marks : ∀ i m,marks[i]?=some m→w.cell? ⟨1,i,none⟩=some (str m)
 marksB : 1 < B
 levels : ∀ i l,levels[i]?=some l → ∃ b off c,w.cell? ⟨3,i,none⟩=some (.slice (some ⟨b,off,none⟩) l.length c)∧b < B∧l.length≤c ∧ ∀ j m,l[j]?=some m→w.cell? ⟨b,off + j,none⟩=some (str m)
 levelsB : 3 < B
 range : ∃ ev,w.cell? ⟨5,0,none⟩=some ev∧(ev = .nilIface ∨ ∃ te pe,ev = .iface te pe)
 rangeB : 5 < B
 syn : ∃ ev,w.cell? ⟨4,0,none⟩=some ev∧(ev = .nilIface ∨ ∃ te pe,ev = .iface te pe)
 synB : 4 < B
 tab:Lib.TabIs Go.Proofs.Tryz.prog w "internal/strconv.uint64pow10" .u64 Lib.pow10Tab
 tabB : 6 < B
theorem Laid.kept {w w':World} {B:Nat} {Z:List Nat} (h:Laid w B) (hc:Chg Z w w') (hZ : ∀ x∈Z,B≤x):Laid w' B:=by
 have hn : ∀ b,b < B→b∉Z:=fun b hb hm=>by have:=hZ b hm; omega
 refine ⟨Nat.le_trans h.le hc.size,fun i m hm=>hc.cellSome (h.marks i m hm) (hn _ h.marksB),h.marksB,fun i l hl=>?_,h.levelsB,?_,h.rangeB,?_,h.synB,?_,h.tabB⟩
 ·obtain ⟨b,off,c,h1,h2,h3,h4⟩:=h.levels i l hl
  exact ⟨b,off,c,hc.cellSome h1 (hn _ h.levelsB),h2,h3,fun j m hj=>hc.cellSome (h4 j m hj) (hn _ h2)⟩
 ·obtain ⟨ev,h1,h2⟩:=h.range
  exact ⟨ev,hc.cellSome h1 (hn _ h.rangeB),h2⟩
 ·obtain ⟨ev,h1,h2⟩:=h.syn
  exact ⟨ev,hc.cellSome h1 (hn _ h.synB),h2⟩
 ·have ht:=h.tab
  unfold Lib.TabIs World.var? at ht ⊢
  rw [show Go.Proofs.Tryz.prog.globalNamed "internal/strconv.uint64pow10" = some 6 by kernel_rfl] at ht ⊢
  simp only [Option.bind_some] at ht ⊢
  rw [hc.block _ (by have:=h.le; have:=h.tabB; omega) (hn _ h.tabB)]
  exact ht
structure Par (w:World) (B bp bt z:Nat) (ts:List Tok):Prop where
 laid:Laid w B
 bpB:B≤bp
 btB:B≤bt
 ne : bt≠bp
 few : ts.length≤600
 short : ∀ t∈ts,t.text.length≤1099511627776
 at_ : ∃ off c,Blk w bp #[.slice (some ⟨bt,off,none⟩) (ts.length + 1) c] 58∧ts.length + 1≤c ∧ ∀ i v,(toksCells z ts)[i]?=some v→w.cell? ⟨bt,off + i,none⟩=some v
theorem Par.kept {w w':World} {B bp bt z:Nat} {ts:List Tok} {Z:List Nat} (h:Par w B bp bt z ts) (hc:Chg Z w w') (hZ : ∀ x∈Z,B≤x) (h1 : bp∉Z) (h2 : bt∉Z):Par w' B bp bt z ts:=by
 obtain ⟨off,c,hb,hl,hcell⟩:=h.at_
 exact ⟨h.laid.kept hc hZ,h.bpB,h.btB,h.ne,h.few,h.short,off,c,hb.kept hc h1,hl,fun i v hv=>hc.cellSome (hcell i v hv) h2⟩
def Ended {α:Type} (w:World) (B bp bt z:Nat) (r:R α) (V:World→α→Value→Prop) (e:Ending) (w':World):Prop:=Chg [bp] w w'∧match r with
 | .ok a ts=>∃ v,e = .returned v∧V w' a v∧Par w' B bp bt z ts
 | .bad en p=>∃ b,e = .panicked [{ v:=.iface 51 (.agg #[.iface 94 (ptr b)]),recovered:=false }]∧w.heap.size≤b∧Blk w' b #[.int .i64 en,.int .i64 p] 96
abbrev New (w w':World):Nat→Prop:=fun b=>w.heap.size≤b∧b < w'.heap.size
end Go.Mq.Tree
namespace Go.Mq.Tree
open Go Go.RowKit Go.Mq Go.WideShapes Go.ChangeShapes
section
variable {H:Type} {enc:TypeId × Value→H} {P:Program} {w:World} {base:Nat} {spare:Nat→Bool} {held:Bool} {fuel:Nat} {t:TypeId} {cs:List Value}
abbrev litS (s:List UInt8):DataW H:=.lit (.string s)
theorem str_of {s:ByteArray} {l:List UInt8} (h : s.data.toList=l):Value.string s=str l:=by rw [← h,str,bs_toList]
theorem tab_strs {n:Nat} {e:TypeId} {p:List MemPlace} (l:List (List UInt8)) (ht:P.underlying t=some (.array n e)) (he:P.underlying e=some .string) (hce:P.cellsOf e=1)
  (h:DataW.trod enc P w base spare held fuel t cs=some (.agg (l.map litS),p)) : ∀ (i:Nat) (s:List UInt8),l[i]?=some s→cs[i]?=some (str s):=by
 obtain ⟨xs,m,_,hx,hl,hxl,hf⟩:=DataW.trod_array ht h
 have hx1 : l.map litS=xs.map (·.1):=by have:=congrArg Prod.fst hx; simpa using this
 intro i s hi
 have hlen : l.length=xs.length:=by have:=congrArg List.length hx1; simpa using this
 have hil : i < l.length:=(List.getElem?_eq_some_iff.1 hi).1
 have hxi:=hf i (by omega)
 rw [List.getElem?_eq_getElem (by omega)] at hxi
 obtain ⟨s',hc,hxe,_⟩:=DataW.trod_string he hxi
 have h1 : (l.map (litS (H:=H)))[i]?=(xs.map (·.1))[i]?:=by rw [hx1]
 simp only [List.getElem?_map,hi,Option.map_some,List.getElem?_eq_getElem (show i < xs.length by omega),hxe,Option.some.injEq,DataW.lit.injEq,Lit.string.injEq] at h1
 rw [hce,Nat.mul_one] at hc
 have h2:=congrArg (·[0]?) hc
 simp only [List.getElem?_take,List.getElem?_drop,Nat.add_zero,List.getElem?_cons_zero] at h2
 simp at h2
 rw [h2,str_of h1.symm]
theorem open_strs {e:TypeId} {p:List MemPlace} (l:List (List UInt8)) (h0 : l≠[]) (ht:P.underlying t=some (.slice e)) (he:P.underlying e=some .string) (hce:P.cellsOf e=1)
  (h:DataW.trod enc P w base spare held fuel t cs=some (.slice (l.map litS) [],p)) :
  ∃ b off c,cs=[.slice (some ⟨b,off,none⟩) l.length c]∧l.length≤c ∧ ∀ (j:Nat) (m:List UInt8),l[j]?=some m→w.cell? ⟨b,off + j,none⟩=some (str m):=by
 rcases DataW.trod_slice ht h with ⟨_,hx⟩ | ⟨a,len,cap,elems,rest,n,_,rfl,hx,_,hlc,hcm,hel,hget,_⟩
 ·cases hx
 have hx1 : l.map litS=elems.map (·.1):=by have:=congrArg Prod.fst hx; simp only [DataW.slice.injEq] at this; exact this.1
 have hlen : l.length=len:=by have:=congrArg List.length hx1; simp at this; omega
 have key : ∀ (j:Nat) (m:List UInt8),l[j]?=some m→w.cell? (a.add j)=some (str m):=by
  intro j m hj
  have hjl : j < l.length:=(List.getElem?_eq_some_iff.1 hj).1
  have hg:=hget j (by omega)
  rw [List.getElem?_eq_getElem (by omega),Option.bind_eq_some_iff,hce,Nat.mul_one] at hg
  obtain ⟨cs',hcs,hd⟩:=hg
  obtain ⟨s',rfl,hxe,_⟩:=DataW.trod_string he hd
  have h1 : (l.map (litS (H:=H)))[j]?=(elems.map (·.1))[j]?:=by rw [hx1]
  simp only [List.getElem?_map,hj,Option.map_some,List.getElem?_eq_getElem (show j < elems.length by omega),hxe,Option.some.injEq,DataW.lit.injEq,Lit.string.injEq] at h1
  obtain ⟨_,_,hcell⟩:=World.cells?_some hcs
  have h2 : w.cell? (a.add j)=[Value.string s'][0]?:=hcell 0 (by omega)
  rw [h2]
  exact congrArg some (str_of h1.symm)
 obtain ⟨b,off,spot⟩:=a
 obtain ⟨x,r,rfl⟩:=List.exists_cons_of_ne_nil h0
 have hz:=key 0 x rfl
 have hspot : spot=none:=by
  have h1:=World.cell?_spot hz
  simp [Addr.add] at h1
  exact h1
 subst hspot
 exact ⟨b,off,cap,by rw [hlen],by omega,fun j m hj=>by have:=key j m hj; rwa [add_plain] at this⟩
theorem tab_slices {n:Nat} {e e2:TypeId} {p:List MemPlace} (ll:List (List (List UInt8))) (h0 : ∀ l∈ll,l≠[]) (ht:P.underlying t=some (.array n e)) (he:P.underlying e=some (.slice e2)) (hce:P.cellsOf e=1) (he2:P.underlying e2=some .string) (hce2:P.cellsOf e2=1)
  (h:DataW.trod enc P w base spare held fuel t cs=some (.agg (ll.map fun l=>.slice (l.map litS) []),p)) :
  ∀ (i:Nat) (l:List (List UInt8)),ll[i]?=some l → ∃ b off c,cs[i]?=some (.slice (some ⟨b,off,none⟩) l.length c)∧l.length≤c ∧ ∀ (j:Nat) (m:List UInt8),l[j]?=some m→w.cell? ⟨b,off + j,none⟩=some (str m):=by
 obtain ⟨xs,m,_,hx,hl,hxl,hf⟩:=DataW.trod_array ht h
 have hx1 : (ll.map fun l=>(DataW.slice (l.map litS) [] : DataW H))=xs.map (·.1):=by have:=congrArg Prod.fst hx; simpa using this
 intro i l hi
 have hlen : ll.length=xs.length:=by have:=congrArg List.length hx1; simpa using this
 have hil : i < ll.length:=(List.getElem?_eq_some_iff.1 hi).1
 have hxi:=hf i (by omega)
 rw [List.getElem?_eq_getElem (by omega)] at hxi
 have h1 : (ll.map fun l=>(DataW.slice (l.map litS) [] : DataW H))[i]?=(xs.map (·.1))[i]?:=by rw [hx1]
 simp only [List.getElem?_map,hi,Option.map_some,List.getElem?_eq_getElem (show i < xs.length by omega),Option.some.injEq] at h1
 have hxi' : xs[i]'(by omega)=(DataW.slice (l.map litS) [],(xs[i]'(by omega)).2):=by rw [h1]
 rw [hxi'] at hxi
 obtain ⟨b,off,c,hc,hlc,hcell⟩:=open_strs l (h0 l (List.mem_of_getElem? hi)) he he2 hce2 hxi
 refine ⟨b,off,c,?_,hlc,hcell⟩
 rw [hce,Nat.mul_one] at hc
 have h2:=congrArg (·[0]?) hc
 simp only [List.getElem?_take,List.getElem?_drop,Nat.add_zero,List.getElem?_cons_zero] at h2
 simpa using h2
theorem laid_var {l:List (String × DataW Unit)} {n:String} {d:DataW Unit} (hm : (n,d)∈l) : ∀ {ps:List MemPlace},DataW.LaidVars P w l ps →
  ∃ g t cs fuel p,P.globalNamed n=some g∧(P.globals[g]?).map (·.type)=some t∧w.var? P n=some cs∧DataW.trod (fun _=>()) P w 0 (fun _=>true) false fuel t cs.toList=some (d,p):=by
 induction l with
 | nil=>cases hm
 | cons x r ih=>
  intro ps h
  obtain ⟨g,t,cs,fuel,p,q,h1,h2,h3,h4,h5,_⟩:=h
  cases hm with
  | head=>exact ⟨g,t,cs,fuel,p,h1,h2,h3,h4⟩
  | tail _ hm=>exact ih hm h5
end
theorem laid_of {l:List (String × DataW Unit)} {W:World} (h : laidMetH Go.Proofs.Tryz.prog l W) (hh : (l.all fun x=>x.2.handleName?.isNone)=true)
  (h1 : ("internal/strconv.uint64pow10",Lib.tabData .u64 Lib.pow10Tab)∈l) (h2 : ∃ nm d,("strconv.ErrRange",.iface nm d)∈l) (h3 : ∃ nm d,("strconv.ErrSyntax",.iface nm d)∈l)
  (h4 : ("marquetry/tree.marks",.agg (marks.map litS))∈l) (h5 : ("marquetry/tree.levels",.agg (levels.map fun l=>.slice (l.map litS) []))∈l):Laid W W.heap.size:=by
 rw [Go.MakeChecks.laidMetH_plain _ _ _ hh] at h
 obtain ⟨ps,hv,_,_⟩:=h
 have err : ∀ (n:String) (g:Nat) (t:TypeId) (ms:Array (String × TypeId)),Go.Proofs.Tryz.prog.globalNamed n=some g→(Go.Proofs.Tryz.prog.globals[g]?).map (·.type)=some t→Go.Proofs.Tryz.prog.underlying t=some (.interface ms)→(∃ nm d,(n,.iface nm d)∈l) →
   ∃ ev,W.cell? ⟨g,0,none⟩=some ev∧(ev = .nilIface ∨ ∃ te pe,ev = .iface te pe):=by
  rintro n g t ms hg hty hu ⟨nm,d,hm⟩
  obtain ⟨g',t',cs,fuel,p,e1,e2,e3,e4⟩:=laid_var hm hv
  obtain rfl:=Option.some.inj (hg.symm.trans e1)
  obtain rfl:=Option.some.inj (hty.symm.trans e2)
  obtain ⟨_,u,v,hcs,_⟩:=iface_of_trod hu e4
  refine ⟨.iface u v,?_,.inr ⟨u,v,rfl⟩⟩
  rw [World.var?_cell hg e3 0,← Array.getElem?_toList,hcs]
  rfl
 obtain ⟨g1,t1,c1,f1,p1,a1,b1,d1,e1⟩:=laid_var h1 hv
 obtain ⟨g4,t4,c4,f4,p4,a4,b4,d4,e4⟩:=laid_var h4 hv
 obtain ⟨g5,t5,c5,f5,p5,a5,b5,d5,e5⟩:=laid_var h5 hv
 have x1:=Option.some.inj ((show Go.Proofs.Tryz.prog.globalNamed "internal/strconv.uint64pow10" = some 6 by kernel_rfl).symm.trans a1)
 have x4:=Option.some.inj ((show Go.Proofs.Tryz.prog.globalNamed "marquetry/tree.marks" = some 1 by kernel_rfl).symm.trans a4)
 have x5:=Option.some.inj ((show Go.Proofs.Tryz.prog.globalNamed "marquetry/tree.levels" = some 3 by kernel_rfl).symm.trans a5)
 subst x1 x4 x5
 have y1:=Option.some.inj ((show (Go.Proofs.Tryz.prog.globals[6]?).map (·.type)=some 209 by kernel_rfl).symm.trans b1)
 have y4:=Option.some.inj ((show (Go.Proofs.Tryz.prog.globals[1]?).map (·.type)=some 127 by kernel_rfl).symm.trans b4)
 have y5:=Option.some.inj ((show (Go.Proofs.Tryz.prog.globals[3]?).map (·.type)=some 190 by kernel_rfl).symm.trans b5)
 subst y1 y4 y5
 have m4:=tab_strs marks Go.Proofs.Tryz.underlying127 Go.Proofs.Tryz.underlying9 (by kernel_rfl) e4
 have m5:=tab_slices levels (by decide) Go.Proofs.Tryz.underlying190 Go.Proofs.Tryz.underlying22 (by kernel_rfl) Go.Proofs.Tryz.underlying9 (by kernel_rfl) e5
 have m1:Lib.TabIs Go.Proofs.Tryz.prog W "internal/strconv.uint64pow10" .u64 Lib.pow10Tab:=by
  unfold Lib.TabIs
  rw [d1,← Lib.cells_of_tab Go.Proofs.Tryz.underlying209 Go.Proofs.Tryz.underlying143 (by kernel_rfl) (by kernel_rfl) e1]
 have mk : ∀ i m,marks[i]?=some m→W.cell? ⟨1,i,none⟩=some (str m):=fun i m hm=>by
  rw [World.var?_cell a4 d4 i,← Array.getElem?_toList]; exact m4 i m hm
 have lv : ∀ i l,levels[i]?=some l → ∃ b off c,W.cell? ⟨3,i,none⟩=some (.slice (some ⟨b,off,none⟩) l.length c)∧b < W.heap.size∧l.length≤c ∧ ∀ j m,l[j]?=some m→W.cell? ⟨b,off + j,none⟩=some (str m):=fun i l hl=>by
  obtain ⟨b,off,c,hc,hlc,hcell⟩:=m5 i l hl
  have hne : l≠[]:=(show ∀ l∈levels,l≠[] by decide) l (List.mem_of_getElem? hl)
  obtain ⟨x,r,rfl⟩:=List.exists_cons_of_ne_nil hne
  exact ⟨b,off,c,by rw [World.var?_cell a5 d5 i,← Array.getElem?_toList]; exact hc,lt_of_cell (hcell 0 x rfl),hlc,hcell⟩
 have r1:=err "strconv.ErrRange" 5 31 _ (by kernel_rfl) (by kernel_rfl) Go.Proofs.Tryz.underlying31 h2
 have r2:=err "strconv.ErrSyntax" 4 31 _ (by kernel_rfl) (by kernel_rfl) Go.Proofs.Tryz.underlying31 h3
 have lt1 : 6 < W.heap.size:=by
  have:=Lib.TabIs.cell m1 a1 0 (by decide)
  exact lt_of_cell this
 have lt4 : 1 < W.heap.size:=lt_of_cell (mk 0 _ rfl)
 have lt5 : 3 < W.heap.size:=by obtain ⟨_,_,_,hc,_⟩:=lv 0 _ rfl; exact lt_of_cell hc
 exact ⟨Nat.le_refl _,mk,lt4,lv,lt5,r1,(by obtain ⟨_,hc,_⟩:=r1; exact lt_of_cell hc),r2,(by obtain ⟨_,hc,_⟩:=r2; exact lt_of_cell hc),m1,lt1⟩
end Go.Mq.Tree
