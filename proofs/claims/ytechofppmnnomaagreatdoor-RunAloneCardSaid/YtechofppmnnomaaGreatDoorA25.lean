/- Some texts in one. -/
import Derived.Test.YtechofppmnnomaaGreatDoorA10
import Derived.Test.YtechofppmnnomaaGreatDoorA14
namespace Go.Mq.Used
open Go Go.RowKit Go.Mq Go.Mq.Tree
def touch (g m n:List UInt8) (l:List (List UInt8)):List (List UInt8):=if m=g∧g≠[]∧n∉l then l ++ [n] else l
def dn (g:List UInt8):E→List (List UInt8)→List (List UInt8)
 | .num _ _,l=>l
 | .var _ m n,l=>touch g m n l
 | .item _ m n i,l=>dn g i (touch g m n l)
 | .un _ _ x,l=>dn g x l
 | .bin _ _ x y,l=>dn g y (dn g x l)
 | .app _ m n a,l=>dn g a (touch g m n l)
 | .nil,l=>l
 | .cons x r,l=>dn g r (dn g x l)
def jd (g:List UInt8):Option E→List (List UInt8)→List (List UInt8)
 | none,l=>l
 | some x,l=>dn g x l
def dA (g:List UInt8):S→List (List UInt8)→List (List UInt8)
 | .nil,l=>l
 | .set _ _ i v r,l=>dA g r (dn g v (jd g i l))
 | .ifs _ v t e r,l=>dA g r (dA g e (dA g t (dn g v l)))
 | .dB _ v t r,l=>dA g r (dA g t (dn g v l))
 | .ret _ v r,l=>dA g r (dn g v l)
 | .dD _ v r,l=>dA g r (dn g v l)
 | .call _ v r,l=>dA g r (dn g v l)
def mF (g:List UInt8) (ps:List aX) (l:List (List UInt8)):List (List UInt8):=ps.foldl (fun l x=>dA g x.body l) l
def Bn (g:List UInt8) (m:Mod):List (List UInt8):=dA g m.body (mF g m.procs [])
def dZ (g:List UInt8) (m:Mod):List (List UInt8):=(Bn g m).mergeSort fun x y=>decide (x≤y)
def eU:E→Nat
 | .num _ _=>0
 | .var _ _ _=>1
 | .item _ _ _ i=>1 + eU i
 | .un _ _ x=>eU x
 | .bin _ _ x y=>eU x + eU y
 | .app _ _ _ a=>1 + eU a
 | .nil=>0
 | .cons x r=>eU x + eU r
def iT:Option E→Nat
 | none=>0
 | some x=>eU x
def dC:S→Nat
 | .nil=>0
 | .set _ _ i v r=>iT i + eU v + dC r
 | .ifs _ v t e r=>eU v + dC t + dC e + dC r
 | .dB _ v t r=>eU v + dC t + dC r
 | .ret _ v r=>eU v + dC r
 | .dD _ v r=>eU v + dC r
 | .call _ v r=>eU v + dC r
def ni (ps:List aX):Nat:=(ps.map fun x=>dC x.body).sum
theorem Bo (g m n:List UInt8) (l:List (List UInt8)) : (touch g m n l).length≤l.length + 1:=by
 rw [touch];split <;> simp
theorem sj (g:List UInt8) (e:E) : ∀ l,(dn g e l).length≤l.length + eU e:=by
 induction e with
 | num p n=>exact fun l=>Nat.le_refl _
 | var p m n=>exact fun l=>Bo g m n l
 | item p m n i ih=>intro l;have h1:=ih (touch g m n l);have h2:=Bo g m n l;simp only [dn,eU];omega
 | un p op x ih=>exact fun l=>ih l
 | bin p op x y ih1 ih2=>intro l;have h1:=ih2 (dn g x l);have h2:=ih1 l;simp only [dn,eU];omega
 | app p m n a ih=>intro l;have h1:=ih (touch g m n l);have h2:=Bo g m n l;simp only [dn,eU];omega
 | nil=>exact fun l=>Nat.le_refl _
 | cons x r ih1 ih2=>intro l;have h1:=ih2 (dn g x l);have h2:=ih1 l;simp only [dn,eU];omega
theorem Ed (g:List UInt8) (o:Option E) (l:List (List UInt8)) : (jd g o l).length≤l.length + iT o:=by
 cases o with
 | none=>exact Nat.le_refl _
 | some x=>exact sj g x l
theorem zB (g:List UInt8) (s:S) : ∀ l,(dA g s l).length≤l.length + dC s:=by
 induction s with
 | nil=>exact fun l=>Nat.le_refl _
 | set p n i v r ih=>intro l;have h1:=ih (dn g v (jd g i l));have h2:=sj g v (jd g i l);have h3:=Ed g i l;simp only [dA,dC];omega
 | ifs p v t e r ih1 ih2 ih3=>intro l;have h1:=ih3 (dA g e (dA g t (dn g v l)));have h2:=ih2 (dA g t (dn g v l));have h3:=ih1 (dn g v l);have h4:=sj g v l;simp only [dA,dC];omega
 | dB p v t r ih1 ih2=>intro l;have h1:=ih2 (dA g t (dn g v l));have h3:=ih1 (dn g v l);have h4:=sj g v l;simp only [dA,dC];omega
 | ret p v r ih=>intro l;have h1:=ih (dn g v l);have h2:=sj g v l;simp only [dA,dC];omega
 | dD p v r ih=>intro l;have h1:=ih (dn g v l);have h2:=sj g v l;simp only [dA,dC];omega
 | call p v r ih=>intro l;have h1:=ih (dn g v l);have h2:=sj g v l;simp only [dA,dC];omega
theorem RS (g:List UInt8) : ∀ (ps:List aX) (l:List (List UInt8)),(mF g ps l).length≤l.length + ni ps
 | [],l=>Nat.le_refl _
 | x :: r,l=>by
  have h1:=RS g r (dA g x.body l);have h2:=zB g x.body l;simp only [mF,List.foldl_cons,ni,List.map_cons,List.sum_cons] at h1 ⊢;omega
theorem Lu (m n:List UInt8) : 1≤(oJ m n).length:=by
 rw [oJ];split <;> simp
theorem Lv (lv:Nat) (x:E) (K:List (List UInt8)):K.length≤(jV lv x K).length:=by
 rw [jV];split <;> simp;omega
theorem abU (x r:E) : (toks x).length + (toks r).length≤(toks (.cons x r)).length:=by
 cases r <;> simp [toks] <;> omega
theorem zC (e:E) : eU e≤(toks e).length:=by
 induction e with
 | num p n=>simp [eU]
 | var p m n=>exact Lu m n
 | item p m n i ih=>have:=Lu m n;simp [toks,eU];omega
 | un p op x ih=>have:=Lv 5 x (toks x);simp [toks,eU];omega
 | bin p op x y ih1 ih2=>have h1:=Lv (qD op) x (toks x);have h2:=Lv (qD op + 1) y (toks y);simp [toks,eU];omega
 | app p m n a ih=>have:=Lu m n;simp [toks,eU];omega
 | nil=>simp [eU]
 | cons x r ih1 ih2=>have:=abU x r;simp only [eU];omega
theorem RU (s:S) : dC s≤(bG s).length:=by
 induction s with
 | nil=>simp [dC]
 | set p n i v r ih=>
  have h1:=zC v;cases i with
  | none=>simp [bG,dC,iT];omega
  | some x=>have h2:=zC x;simp [bG,dC,iT,yD];omega
 | ifs p v t e r ih1 ih2 ih3=>
  have h1:=zC v;have ke : (bG e).length≤(if e.isNil then [] else [101,108,115,101] :: bG e).length:=by
   cases e <;> simp [S.isNil,bG] <;> omega
  simp only [bG,List.length_cons,List.length_append,dC];omega
 | dB p v t r ih1 ih2=>have h1:=zC v;simp only [bG,List.length_cons,List.length_append,dC];omega
 | ret p v r ih=>have h1:=zC v;simp only [bG,List.length_cons,List.length_append,dC];omega
 | dD p v r ih=>have h1:=zC v;simp only [bG,List.length_cons,List.length_append,dC];omega
 | call p v r ih=>have h1:=zC v;simp only [bG,List.length_cons,List.length_append,dC];omega
theorem RV : ∀ ps:List aX,ni ps≤(ps.flatMap qL).length
 | []=>by simp [ni]
 | x :: r=>by
  have h1:=RV r;have h2:=RU x.body;have h3 : (bG x.body).length≤(qL x).length:=by simp only [qL,List.length_cons,List.length_append];omega
  simp only [ni,List.map_cons,List.sum_cons,List.flatMap_cons,List.length_append] at h1 ⊢;omega
theorem RX (m:Mod) : ni m.procs + dC m.body≤(Aw m).length:=by
 have h1:=RV m.procs;have h2:=RU m.body;simp only [Aw,List.length_cons,List.length_append];omega
theorem RY (g:List UInt8) (m:Mod) : (Bn g m).length≤ni m.procs + dC m.body:=by
 have h1:=zB g m.body (mF g m.procs []);have h2:=RS g m.procs [];simp only [Bn,List.length_nil] at h1 h2 ⊢;omega
end Go.Mq.Used
namespace Go.Mq.Used
open Go Go.RowKit Go.Mq Go.Mq.Tree
theorem Lx {g m n:List UInt8} {l:List (List UInt8)} (hn : n.length≤10) (hl : ∀ x∈l,x.length≤10) : ∀ x∈touch g m n l,x.length≤10:=by
 rw [touch];split
 ·intro x hx
  rcases List.mem_append.1 hx with h|h
  ·exact hl x h
  ·rw [List.mem_singleton.1 h];exact hn
 ·exact hl
theorem xK (g:List UInt8) {e:E} : WF e → ∀ l,(∀ x∈l,x.length≤10) → ∀ x∈dn g e l,x.length≤10:=by
 induction e with
 | num p n=>exact fun _ _ h=>h
 | var p m n=>exact fun h l hl=>Lx h.2.2.2 hl
 | item p m n i ih=>exact fun h l hl=>ih h.2.2.1 _ (Lx h.2.1.2.2 hl)
 | un p op x ih=>exact fun h l hl=>ih h.2.1 l hl
 | bin p op x y ih1 ih2=>exact fun h l hl=>ih2 h.2.2.1 _ (ih1 h.2.1.1 l hl)
 | app p m n a ih=>exact fun h l hl=>ih h.2.2.1 _ (Lx h.2.1.2.2 hl)
 | nil=>exact fun _ _ h=>h
 | cons x r ih1 ih2=>exact fun h l hl=>ih2 h.2.1 _ (ih1 h.1.1 l hl)
theorem RZ (g:List UInt8) {s:S} : ∀ {d:Nat},gJ d s → ∀ l,(∀ x∈l,x.length≤10) → ∀ x∈dA g s l,x.length≤10:=by
 induction s with
 | nil=>exact fun _ _ h=>h
 | set p n i v r ih=>
  intro d h l hl;refine ih h.2.2.2 _ (xK g h.2.2.1.1.1 _ ?_);cases i with
  | none=>exact hl
  | some x=>exact xK g (h.2.1 x rfl).1.1 l hl
 | ifs p v t e r ih1 ih2 ih3=>exact fun h l hl=>ih3 h.2.2 _ (ih2 h.2.1.2.2 _ (ih1 h.2.1.1.2 _ (xK g h.1.1.1 l hl)))
 | dB p v t r ih1 ih2=>exact fun h l hl=>ih2 h.2.2 _ (ih1 h.2.1.2 _ (xK g h.1.1.1 l hl))
 | ret p v r ih=>exact fun h l hl=>ih h.2 _ (xK g h.1.1.1 l hl)
 | dD p v r ih=>exact fun h l hl=>ih h.2 _ (xK g h.1.1.1 l hl)
 | call p v r ih=>exact fun h l hl=>ih h.2 _ (xK g h.1.1.1.1 l hl)
theorem R3 (g:List UInt8) : ∀ {ps:List aX},(∀ x∈ps,Av x) → ∀ l,(∀ x∈l,x.length≤10) → ∀ x∈mF g ps l,x.length≤10
 | [],_,_,hl=>hl
 | y :: r,h,l,hl=>by
  show ∀ x∈mF g r (dA g y.body l),x.length≤10
  exact R3 g (fun x hx=>h x (by simp [hx])) _ (RZ g (h y (by simp)).body l hl)
theorem Hd (g:List UInt8) {m:Mod} (h:CL m) : ∀ n∈dZ g m,n.length≤10:=by
 intro n hn;rw [dZ,(List.mergeSort_perm _ _).mem_iff] at hn;exact RZ g h.body _ (R3 g h.procs [] (by simp)) n hn
end Go.Mq.Used
