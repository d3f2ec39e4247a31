/- Some texts in one. -/
import Derived.Test.YtechofppmnnomaaGreatDoorB10
import Derived.Test.YtechofppmnnomaaGreatDoorB14
namespace Go.Mq.Used
open Go Go.RowKit Go.Mq Go.Mq.Tree
def touch (g m n:List UInt8) (l:List (List UInt8)):List (List UInt8):=if m=g∧g≠[]∧n∉l then l ++ [n] else l
def dw (g:List UInt8):E→List (List UInt8)→List (List UInt8)
 | .num _ _,l=>l
 | .var _ m n,l=>touch g m n l
 | .item _ m n i,l=>dw g i (touch g m n l)
 | .un _ _ x,l=>dw g x l
 | .bin _ _ x y,l=>dw g y (dw g x l)
 | .app _ m n a,l=>dw g a (touch g m n l)
 | .nil,l=>l
 | .cons x r,l=>dw g r (dw g x l)
def iY (g:List UInt8):Option E→List (List UInt8)→List (List UInt8)
 | none,l=>l
 | some x,l=>dw g x l
def dA (g:List UInt8):S→List (List UInt8)→List (List UInt8)
 | .nil,l=>l
 | .set _ _ i v r,l=>dA g r (dw g v (iY g i l))
 | .ifs _ v t e r,l=>dA g r (dA g e (dA g t (dw g v l)))
 | .dE _ v t r,l=>dA g r (dA g t (dw g v l))
 | .ret _ v r,l=>dA g r (dw g v l)
 | .dI _ v r,l=>dA g r (dw g v l)
 | .call _ v r,l=>dA g r (dw g v l)
def mh (g:List UInt8) (ps:List aX) (l:List (List UInt8)):List (List UInt8):=ps.foldl (fun l x=>dA g x.body l) l
def Bf (g:List UInt8) (m:Mod):List (List UInt8):=dA g m.body (mh g m.procs [])
def fM (g:List UInt8) (m:Mod):List (List UInt8):=(Bf g m).mergeSort fun x y=>decide (x≤y)
def eT:E→Nat
 | .num _ _=>0
 | .var _ _ _=>1
 | .item _ _ _ i=>1 + eT i
 | .un _ _ x=>eT x
 | .bin _ _ x y=>eT x + eT y
 | .app _ _ _ a=>1 + eT a
 | .nil=>0
 | .cons x r=>eT x + eT r
def iM:Option E→Nat
 | none=>0
 | some x=>eT x
def dD:S→Nat
 | .nil=>0
 | .set _ _ i v r=>iM i + eT v + dD r
 | .ifs _ v t e r=>eT v + dD t + dD e + dD r
 | .dE _ v t r=>eT v + dD t + dD r
 | .ret _ v r=>eT v + dD r
 | .dI _ v r=>eT v + dD r
 | .call _ v r=>eT v + dD r
def mZ (ps:List aX):Nat:=(ps.map fun x=>dD x.body).sum
theorem Bg (g m n:List UInt8) (l:List (List UInt8)) : (touch g m n l).length≤l.length + 1:=by
 rw [touch];split <;> simp
theorem si (g:List UInt8) (e:E) : ∀ l,(dw g e l).length≤l.length + eT e:=by
 induction e with
 | num p n=>exact fun l=>Nat.le_refl _
 | var p m n=>exact fun l=>Bg g m n l
 | item p m n i ih=>intro l;have h1:=ih (touch g m n l);have h2:=Bg g m n l;simp only [dw,eT];omega
 | un p op x ih=>exact fun l=>ih l
 | bin p op x y ih1 ih2=>intro l;have h1:=ih2 (dw g x l);have h2:=ih1 l;simp only [dw,eT];omega
 | app p m n a ih=>intro l;have h1:=ih (touch g m n l);have h2:=Bg g m n l;simp only [dw,eT];omega
 | nil=>exact fun l=>Nat.le_refl _
 | cons x r ih1 ih2=>intro l;have h1:=ih2 (dw g x l);have h2:=ih1 l;simp only [dw,eT];omega
theorem D6 (g:List UInt8) (o:Option E) (l:List (List UInt8)) : (iY g o l).length≤l.length + iM o:=by
 cases o with
 | none=>exact Nat.le_refl _
 | some x=>exact si g x l
theorem zD (g:List UInt8) (s:S) : ∀ l,(dA g s l).length≤l.length + dD s:=by
 induction s with
 | nil=>exact fun l=>Nat.le_refl _
 | set p n i v r ih=>intro l;have h1:=ih (dw g v (iY g i l));have h2:=si g v (iY g i l);have h3:=D6 g i l;simp only [dA,dD];omega
 | ifs p v t e r ih1 ih2 ih3=>intro l;have h1:=ih3 (dA g e (dA g t (dw g v l)));have h2:=ih2 (dA g t (dw g v l));have h3:=ih1 (dw g v l);have h4:=si g v l;simp only [dA,dD];omega
 | dE p v t r ih1 ih2=>intro l;have h1:=ih2 (dA g t (dw g v l));have h3:=ih1 (dw g v l);have h4:=si g v l;simp only [dA,dD];omega
 | ret p v r ih=>intro l;have h1:=ih (dw g v l);have h2:=si g v l;simp only [dA,dD];omega
 | dI p v r ih=>intro l;have h1:=ih (dw g v l);have h2:=si g v l;simp only [dA,dD];omega
 | call p v r ih=>intro l;have h1:=ih (dw g v l);have h2:=si g v l;simp only [dA,dD];omega
theorem Rz (g:List UInt8) : ∀ (ps:List aX) (l:List (List UInt8)),(mh g ps l).length≤l.length + mZ ps
 | [],l=>Nat.le_refl _
 | x :: r,l=>by
  have h1:=Rz g r (dA g x.body l);have h2:=zD g x.body l;simp only [mh,List.foldl_cons,mZ,List.map_cons,List.sum_cons] at h1 ⊢;omega
theorem Lg (m n:List UInt8) : 1≤(oD m n).length:=by
 rw [oD];split <;> simp
theorem Lh (lv:Nat) (x:E) (K:List (List UInt8)):K.length≤(jT lv x K).length:=by
 rw [jT];split <;> simp;omega
theorem abA (x r:E) : (toks x).length + (toks r).length≤(toks (.cons x r)).length:=by
 cases r <;> simp [toks] <;> omega
theorem zF (e:E) : eT e≤(toks e).length:=by
 induction e with
 | num p n=>simp [eT]
 | var p m n=>exact Lg m n
 | item p m n i ih=>have:=Lg m n;simp [toks,eT];omega
 | un p op x ih=>have:=Lh 5 x (toks x);simp [toks,eT];omega
 | bin p op x y ih1 ih2=>have h1:=Lh (qH op) x (toks x);have h2:=Lh (qH op + 1) y (toks y);simp [toks,eT];omega
 | app p m n a ih=>have:=Lg m n;simp [toks,eT];omega
 | nil=>simp [eT]
 | cons x r ih1 ih2=>have:=abA x r;simp only [eT];omega
theorem RA (s:S) : dD s≤(bH s).length:=by
 induction s with
 | nil=>simp [dD]
 | set p n i v r ih=>
  have h1:=zF v;cases i with
  | none=>simp [bH,dD,iM];omega
  | some x=>have h2:=zF x;simp [bH,dD,iM,yD];omega
 | ifs p v t e r ih1 ih2 ih3=>
  have h1:=zF v;have ke : (bH e).length≤(if e.isNil then [] else [101,108,115,101] :: bH e).length:=by
   cases e <;> simp [S.isNil,bH] <;> omega
  simp only [bH,List.length_cons,List.length_append,dD];omega
 | dE p v t r ih1 ih2=>have h1:=zF v;simp only [bH,List.length_cons,List.length_append,dD];omega
 | ret p v r ih=>have h1:=zF v;simp only [bH,List.length_cons,List.length_append,dD];omega
 | dI p v r ih=>have h1:=zF v;simp only [bH,List.length_cons,List.length_append,dD];omega
 | call p v r ih=>have h1:=zF v;simp only [bH,List.length_cons,List.length_append,dD];omega
theorem RB : ∀ ps:List aX,mZ ps≤(ps.flatMap qP).length
 | []=>by simp [mZ]
 | x :: r=>by
  have h1:=RB r;have h2:=RA x.body;have h3 : (bH x.body).length≤(qP x).length:=by simp only [qP,List.length_cons,List.length_append];omega
  simp only [mZ,List.map_cons,List.sum_cons,List.flatMap_cons,List.length_append] at h1 ⊢;omega
theorem RD (m:Mod) : mZ m.procs + dD m.body≤(Av m).length:=by
 have h1:=RB m.procs;have h2:=RA m.body;simp only [Av,List.length_cons,List.length_append];omega
theorem RF (g:List UInt8) (m:Mod) : (Bf g m).length≤mZ m.procs + dD m.body:=by
 have h1:=zD g m.body (mh g m.procs []);have h2:=Rz g m.procs [];simp only [Bf,List.length_nil] at h1 h2 ⊢;omega
end Go.Mq.Used
namespace Go.Mq.Used
open Go Go.RowKit Go.Mq Go.Mq.Tree
theorem Li {g m n:List UInt8} {l:List (List UInt8)} (hn : n.length≤10) (hl : ∀ x∈l,x.length≤10) : ∀ x∈touch g m n l,x.length≤10:=by
 rw [touch];split
 ·intro x hx
  rcases List.mem_append.1 hx with h|h
  ·exact hl x h
  ·rw [List.mem_singleton.1 h];exact hn
 ·exact hl
theorem xG (g:List UInt8) {e:E} : WF e → ∀ l,(∀ x∈l,x.length≤10) → ∀ x∈dw g e l,x.length≤10:=by
 induction e with
 | num p n=>exact fun _ _ h=>h
 | var p m n=>exact fun h l hl=>Li h.2.2.2 hl
 | item p m n i ih=>exact fun h l hl=>ih h.2.2.1 _ (Li h.2.1.2.2 hl)
 | un p op x ih=>exact fun h l hl=>ih h.2.1 l hl
 | bin p op x y ih1 ih2=>exact fun h l hl=>ih2 h.2.2.1 _ (ih1 h.2.1.1 l hl)
 | app p m n a ih=>exact fun h l hl=>ih h.2.2.1 _ (Li h.2.1.2.2 hl)
 | nil=>exact fun _ _ h=>h
 | cons x r ih1 ih2=>exact fun h l hl=>ih2 h.2.1 _ (ih1 h.1.1 l hl)
theorem RG (g:List UInt8) {s:S} : ∀ {d:Nat},gI d s → ∀ l,(∀ x∈l,x.length≤10) → ∀ x∈dA g s l,x.length≤10:=by
 induction s with
 | nil=>exact fun _ _ h=>h
 | set p n i v r ih=>
  intro d h l hl;refine ih h.2.2.2 _ (xG g h.2.2.1.1.1 _ ?_);cases i with
  | none=>exact hl
  | some x=>exact xG g (h.2.1 x rfl).1.1 l hl
 | ifs p v t e r ih1 ih2 ih3=>exact fun h l hl=>ih3 h.2.2 _ (ih2 h.2.1.2.2 _ (ih1 h.2.1.1.2 _ (xG g h.1.1.1 l hl)))
 | dE p v t r ih1 ih2=>exact fun h l hl=>ih2 h.2.2 _ (ih1 h.2.1.2 _ (xG g h.1.1.1 l hl))
 | ret p v r ih=>exact fun h l hl=>ih h.2 _ (xG g h.1.1.1 l hl)
 | dI p v r ih=>exact fun h l hl=>ih h.2 _ (xG g h.1.1.1 l hl)
 | call p v r ih=>exact fun h l hl=>ih h.2 _ (xG g h.1.1.1.1 l hl)
theorem RH (g:List UInt8) : ∀ {ps:List aX},(∀ x∈ps,Au x) → ∀ l,(∀ x∈l,x.length≤10) → ∀ x∈mh g ps l,x.length≤10
 | [],_,_,hl=>hl
 | y :: r,h,l,hl=>by
  show ∀ x∈mh g r (dA g y.body l),x.length≤10
  exact RH g (fun x hx=>h x (by simp [hx])) _ (RG g (h y (by simp)).body l hl)
theorem GZ (g:List UInt8) {m:Mod} (h:CE m) : ∀ n∈fM g m,n.length≤10:=by
 intro n hn;rw [fM,(List.mergeSort_perm _ _).mem_iff] at hn;exact RG g h.body _ (RH g h.procs [] (by simp)) n hn
end Go.Mq.Used
