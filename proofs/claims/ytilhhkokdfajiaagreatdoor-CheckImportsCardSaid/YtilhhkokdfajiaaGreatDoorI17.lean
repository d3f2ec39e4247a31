/- Some texts in one. -/
import Derived.Test.YtilhhkokdfajiaaGreatDoorI11
namespace Go.Mq.Used
open Go Go.RowKit Go.Mq Go.Mq.Tree
def touch (g m n:List UInt8) (l:List (List UInt8)):List (List UInt8):=if m=g∧g≠[]∧n∉l then l ++ [n] else l
def useE (g:List UInt8):E→List (List UInt8)→List (List UInt8)
 | .num _ _,l=>l
 | .var _ m n,l=>touch g m n l
 | .item _ m n i,l=>useE g i (touch g m n l)
 | .un _ _ x,l=>useE g x l
 | .bin _ _ x y,l=>useE g y (useE g x l)
 | .app _ m n a,l=>useE g a (touch g m n l)
 | .nil,l=>l
 | .cons x r,l=>useE g r (useE g x l)
def useO (g:List UInt8):Option E→List (List UInt8)→List (List UInt8)
 | none,l=>l
 | some x,l=>useE g x l
def useS (g:List UInt8):S→List (List UInt8)→List (List UInt8)
 | .nil,l=>l
 | .set _ _ i v r,l=>useS g r (useE g v (useO g i l))
 | .ifs _ v t e r,l=>useS g r (useS g e (useS g t (useE g v l)))
 | .whil _ v t r,l=>useS g r (useS g t (useE g v l))
 | .ret _ v r,l=>useS g r (useE g v l)
 | .wri _ v r,l=>useS g r (useE g v l)
 | .call _ v r,l=>useS g r (useE g v l)
def useP (g:List UInt8) (ps:List Proc) (l:List (List UInt8)):List (List UInt8):=ps.foldl (fun l x=>useS g x.body l) l
def useM (g:List UInt8) (m:Mod):List (List UInt8):=useS g m.body (useP g m.procs [])
def usedL (g:List UInt8) (m:Mod):List (List UInt8):=(useM g m).mergeSort fun x y=>decide (x≤y)
def cntE:E→Nat
 | .num _ _=>0
 | .var _ _ _=>1
 | .item _ _ _ i=>1 + cntE i
 | .un _ _ x=>cntE x
 | .bin _ _ x y=>cntE x + cntE y
 | .app _ _ _ a=>1 + cntE a
 | .nil=>0
 | .cons x r=>cntE x + cntE r
def cntO:Option E→Nat
 | none=>0
 | some x=>cntE x
def cntS:S→Nat
 | .nil=>0
 | .set _ _ i v r=>cntO i + cntE v + cntS r
 | .ifs _ v t e r=>cntE v + cntS t + cntS e + cntS r
 | .whil _ v t r=>cntE v + cntS t + cntS r
 | .ret _ v r=>cntE v + cntS r
 | .wri _ v r=>cntE v + cntS r
 | .call _ v r=>cntE v + cntS r
def cntP (ps:List Proc):Nat:=(ps.map fun x=>cntS x.body).sum
theorem touch_len (g m n:List UInt8) (l:List (List UInt8)) : (touch g m n l).length≤l.length + 1:=by
 rw [touch]; split <;> simp
theorem useE_len (g:List UInt8) (e:E) : ∀ l,(useE g e l).length≤l.length + cntE e:=by
 induction e with
 | num p n=>exact fun l=>Nat.le_refl _
 | var p m n=>exact fun l=>touch_len g m n l
 | item p m n i ih=>intro l; have h1:=ih (touch g m n l); have h2:=touch_len g m n l; simp only [useE,cntE]; omega
 | un p op x ih=>exact fun l=>ih l
 | bin p op x y ih1 ih2=>intro l; have h1:=ih2 (useE g x l); have h2:=ih1 l; simp only [useE,cntE]; omega
 | app p m n a ih=>intro l; have h1:=ih (touch g m n l); have h2:=touch_len g m n l; simp only [useE,cntE]; omega
 | nil=>exact fun l=>Nat.le_refl _
 | cons x r ih1 ih2=>intro l; have h1:=ih2 (useE g x l); have h2:=ih1 l; simp only [useE,cntE]; omega
theorem useO_len (g:List UInt8) (o:Option E) (l:List (List UInt8)) : (useO g o l).length≤l.length + cntO o:=by
 cases o with
 | none=>exact Nat.le_refl _
 | some x=>exact useE_len g x l
theorem useS_len (g:List UInt8) (s:S) : ∀ l,(useS g s l).length≤l.length + cntS s:=by
 induction s with
 | nil=>exact fun l=>Nat.le_refl _
 | set p n i v r ih=>intro l; have h1:=ih (useE g v (useO g i l)); have h2:=useE_len g v (useO g i l); have h3:=useO_len g i l; simp only [useS,cntS]; omega
 | ifs p v t e r ih1 ih2 ih3=>intro l; have h1:=ih3 (useS g e (useS g t (useE g v l))); have h2:=ih2 (useS g t (useE g v l)); have h3:=ih1 (useE g v l); have h4:=useE_len g v l; simp only [useS,cntS]; omega
 | whil p v t r ih1 ih2=>intro l; have h1:=ih2 (useS g t (useE g v l)); have h3:=ih1 (useE g v l); have h4:=useE_len g v l; simp only [useS,cntS]; omega
 | ret p v r ih=>intro l; have h1:=ih (useE g v l); have h2:=useE_len g v l; simp only [useS,cntS]; omega
 | wri p v r ih=>intro l; have h1:=ih (useE g v l); have h2:=useE_len g v l; simp only [useS,cntS]; omega
 | call p v r ih=>intro l; have h1:=ih (useE g v l); have h2:=useE_len g v l; simp only [useS,cntS]; omega
theorem useP_len (g:List UInt8) : ∀ (ps:List Proc) (l:List (List UInt8)),(useP g ps l).length≤l.length + cntP ps
 | [],l=>Nat.le_refl _
 | x :: r,l=>by
  have h1:=useP_len g r (useS g x.body l)
  have h2:=useS_len g x.body l
  simp only [useP,List.foldl_cons,cntP,List.map_cons,List.sum_cons] at h1 ⊢
  omega
theorem qual_pos (m n:List UInt8) : 1≤(qualK m n).length:=by
 rw [qualK]; split <;> simp
theorem within_le (lv:Nat) (x:E) (K:List (List UInt8)):K.length≤(withinK lv x K).length:=by
 rw [withinK]; split <;> simp; omega
theorem toks_more' (x r:E) : (toks x).length + (toks r).length≤(toks (.cons x r)).length:=by
 cases r <;> simp [toks] <;> omega
theorem cntE_le (e:E) : cntE e≤(toks e).length:=by
 induction e with
 | num p n=>simp [cntE]
 | var p m n=>exact qual_pos m n
 | item p m n i ih=>have:=qual_pos m n; simp [toks,cntE]; omega
 | un p op x ih=>have:=within_le 5 x (toks x); simp [toks,cntE]; omega
 | bin p op x y ih1 ih2=>have h1:=within_le (opLevel op) x (toks x); have h2:=within_le (opLevel op + 1) y (toks y); simp [toks,cntE]; omega
 | app p m n a ih=>have:=qual_pos m n; simp [toks,cntE]; omega
 | nil=>simp [cntE]
 | cons x r ih1 ih2=>have:=toks_more' x r; simp only [cntE]; omega
theorem cntS_le (s:S) : cntS s≤(stmtK s).length:=by
 induction s with
 | nil=>simp [cntS]
 | set p n i v r ih=>
  have h1:=cntE_le v
  cases i with
  | none=>simp [stmtK,cntS,cntO]; omega
  | some x=>have h2:=cntE_le x; simp [stmtK,cntS,cntO,indexK]; omega
 | ifs p v t e r ih1 ih2 ih3=>
  have h1:=cntE_le v
  have ke : (stmtK e).length≤(if e.isNil then [] else [101,108,115,101] :: stmtK e).length:=by
   cases e <;> simp [S.isNil,stmtK] <;> omega
  simp only [stmtK,List.length_cons,List.length_append,cntS]; omega
 | whil p v t r ih1 ih2=>have h1:=cntE_le v; simp only [stmtK,List.length_cons,List.length_append,cntS]; omega
 | ret p v r ih=>have h1:=cntE_le v; simp only [stmtK,List.length_cons,List.length_append,cntS]; omega
 | wri p v r ih=>have h1:=cntE_le v; simp only [stmtK,List.length_cons,List.length_append,cntS]; omega
 | call p v r ih=>have h1:=cntE_le v; simp only [stmtK,List.length_cons,List.length_append,cntS]; omega
theorem cntP_le : ∀ ps:List Proc,cntP ps≤(ps.flatMap procK).length
 | []=>by simp [cntP]
 | x :: r=>by
  have h1:=cntP_le r
  have h2:=cntS_le x.body
  have h3 : (stmtK x.body).length≤(procK x).length:=by simp only [procK,List.length_cons,List.length_append]; omega
  simp only [cntP,List.map_cons,List.sum_cons,List.flatMap_cons,List.length_append] at h1 ⊢
  omega
theorem cntM_le (m:Mod) : cntP m.procs + cntS m.body≤(modK m).length:=by
 have h1:=cntP_le m.procs
 have h2:=cntS_le m.body
 simp only [modK,List.length_cons,List.length_append]; omega
theorem useM_len (g:List UInt8) (m:Mod) : (useM g m).length≤cntP m.procs + cntS m.body:=by
 have h1:=useS_len g m.body (useP g m.procs [])
 have h2:=useP_len g m.procs []
 simp only [useM,List.length_nil] at h1 h2 ⊢
 omega
end Go.Mq.Used
