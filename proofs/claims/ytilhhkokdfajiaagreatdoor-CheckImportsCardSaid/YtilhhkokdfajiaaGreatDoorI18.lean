/- Some texts in one. -/
import Derived.Test.YtilhhkokdfajiaaGreatDoorI15
import Derived.Test.YtilhhkokdfajiaaGreatDoorI17
namespace Go.Mq.Check
open Go Go.RowKit Go.Mq Go.Mq.Tree Go.Mq.Sym Go.Mq.Used
def hasE (g x:List UInt8):E→Prop
 | .num _ _=>False
 | .var _ m n=>m=g∧n=x
 | .item _ m n i=>(m=g∧n=x)∨hasE g x i
 | .un _ _ e=>hasE g x e
 | .bin _ _ a b=>hasE g x a∨hasE g x b
 | .app _ m n l=>(m=g∧n=x)∨hasE g x l
 | .nil=>False
 | .cons a b=>hasE g x a∨hasE g x b
def hasO (g x:List UInt8):Option E→Prop
 | none=>False
 | some e=>hasE g x e
def hasS (g x:List UInt8):S→Prop
 | .nil=>False
 | .set _ _ i v r=>(hasO g x i∨hasE g x v)∨hasS g x r
 | .ifs _ v t e r=>((hasE g x v∨hasS g x t)∨hasS g x e)∨hasS g x r
 | .whil _ v t r=>(hasE g x v∨hasS g x t)∨hasS g x r
 | .ret _ v r=>hasE g x v∨hasS g x r
 | .wri _ v r=>hasE g x v∨hasS g x r
 | .call _ v r=>hasE g x v∨hasS g x r
theorem touch_mem {g m n:List UInt8} {l:List (List UInt8)} {x:List UInt8} (hg : g≠[]) : x∈touch g m n l↔x∈l∨(m=g∧n=x):=by
 rw [touch]
 by_cases h : m=g∧g≠[]∧n∉l
 ·rw [if_pos h]
  simp only [List.mem_append,List.mem_singleton]
  exact ⟨fun hx=>hx.elim .inl fun hx=>.inr ⟨h.1,hx.symm⟩,fun hx=>hx.elim .inl fun hx=>.inr hx.2.symm⟩
 ·rw [if_neg h]
  refine ⟨.inl,fun hx=>hx.elim id fun hx=>?_⟩
  obtain ⟨h1,h2⟩:=hx
  by_cases hn : n∈l
  ·exact h2 ▸ hn
  ·exact absurd ⟨h1,hg,hn⟩ h
theorem useE_mem {g:List UInt8} (hg : g≠[]) (x:List UInt8) : ∀ (e:E) (l:List (List UInt8)),x∈useE g e l↔x∈l∨hasE g x e
 | .num p n,l=>by simp [useE,hasE]
 | .var p m n,l=>by rw [useE,hasE,touch_mem hg]
 | .item p m n i,l=>by rw [useE,hasE,useE_mem hg x i,touch_mem hg,or_assoc]
 | .un p o e,l=>by rw [useE,hasE,useE_mem hg x e]
 | .bin p o a b,l=>by rw [useE,hasE,useE_mem hg x b,useE_mem hg x a,or_assoc]
 | .app p m n a,l=>by rw [useE,hasE,useE_mem hg x a,touch_mem hg,or_assoc]
 | .nil,l=>by simp [useE,hasE]
 | .cons a b,l=>by rw [useE,hasE,useE_mem hg x b,useE_mem hg x a,or_assoc]
theorem useO_mem {g:List UInt8} (hg : g≠[]) (x:List UInt8) (o:Option E) (l:List (List UInt8)) : x∈useO g o l↔x∈l∨hasO g x o:=by
 cases o with
 | none=>simp [useO,hasO]
 | some e=>exact useE_mem hg x e l
theorem useS_mem {g:List UInt8} (hg : g≠[]) (x:List UInt8) (s:S) : ∀ l:List (List UInt8),x∈useS g s l↔x∈l∨hasS g x s:=by
 induction s with
 | nil=>intro l; simp [useS,hasS]
 | set p n i v r ih=>intro l; rw [useS,hasS,ih,useE_mem hg,useO_mem hg,or_assoc,or_assoc,or_assoc]
 | ifs p v t e r ih1 ih2 ih3=>intro l; rw [useS,hasS,ih3,ih2,ih1,useE_mem hg]; simp only [or_assoc]
 | whil p v t r ih1 ih2=>intro l; rw [useS,hasS,ih2,ih1,useE_mem hg]; simp only [or_assoc]
 | ret p v r ih=>intro l; rw [useS,hasS,ih,useE_mem hg,or_assoc]
 | wri p v r ih=>intro l; rw [useS,hasS,ih,useE_mem hg,or_assoc]
 | call p v r ih=>intro l; rw [useS,hasS,ih,useE_mem hg,or_assoc]
theorem useP_mem {g:List UInt8} (hg : g≠[]) (x:List UInt8) : ∀ (ps:List Proc) (l:List (List UInt8)),x∈useP g ps l↔x∈l ∨ ∃ q∈ps,hasS g x q.body
 | [],l=>by simp [useP]
 | q :: r,l=>by
  have:=useP_mem hg x r (useS g q.body l)
  rw [useP] at this ⊢
  rw [List.foldl_cons,this,useS_mem hg]
  simp [or_assoc]
theorem usedL_mem {g:List UInt8} (hg : g≠[]) (x:List UInt8) (m:Mod) : x∈usedL g m↔(∃ q∈m.procs,hasS g x q.body)∨hasS g x m.body:=by
 rw [usedL,(List.mergeSort_perm _ _).mem_iff,useM,useS_mem hg,useP_mem hg]
 simp
theorem exprL_on {c c':Env} : ∀ e:E,(∀ p m n,hasE m n e→c'.find p m n=c.find p m n)→exprL c' e=exprL c e
 | .num _ _,_=>rfl
 | .var p m n,h=>by simp only [exprL,nameL,h p m n ⟨rfl,rfl⟩]
 | .item p m n i,h=>by simp only [exprL,nameL,h p m n (.inl ⟨rfl,rfl⟩),exprL_on i fun p m n hh=>h p m n (.inr hh)]
 | .un _ _ x,h=>by simp only [exprL,exprL_on x h]
 | .bin _ _ x y,h=>by simp only [exprL,exprL_on x fun p m n hh=>h p m n (.inl hh),exprL_on y fun p m n hh=>h p m n (.inr hh)]
 | .app p m n l,h=>by simp only [exprL,nameL,h p m n (.inl ⟨rfl,rfl⟩),exprL_on l fun p m n hh=>h p m n (.inr hh)]
 | .nil,_=>rfl
 | .cons x r,h=>by simp only [exprL,exprL_on x fun p m n hh=>h p m n (.inl hh),exprL_on r fun p m n hh=>h p m n (.inr hh)]
theorem bodyL_on {c c':Env} (h0 : ∀ p n,c'.find p [] n=c.find p [] n) (s:S) : (∀ p m n,hasS m n s→c'.find p m n=c.find p m n)→bodyL c' s=bodyL c s:=by
 induction s with
 | nil=>exact fun _=>rfl
 | set p n i v r ih=>
  intro h
  have hv:=exprL_on v fun p m n hh=>h p m n (.inl (.inr hh))
  have hr:=ih fun p m n hh=>h p m n (.inr hh)
  cases i with
  | none=>simp only [bodyL,hv,hr,exprL,nameL,h0]
  | some y=>
   have hy:=exprL_on y fun p m n hh=>h p m n (.inl (.inl hh))
   simp only [bodyL,hv,hr,exprL,nameL,h0,hy]
 | ifs p v t e r ih1 ih2 ih3=>
  intro h
  simp only [bodyL,exprL_on v fun p m n hh=>h p m n (.inl (.inl (.inl hh))),ih1 fun p m n hh=>h p m n (.inl (.inl (.inr hh))),ih2 fun p m n hh=>h p m n (.inl (.inr hh)),ih3 fun p m n hh=>h p m n (.inr hh)]
 | whil p v t r ih1 ih2=>
  intro h
  simp only [bodyL,exprL_on v fun p m n hh=>h p m n (.inl (.inl hh)),ih1 fun p m n hh=>h p m n (.inl (.inr hh)),ih2 fun p m n hh=>h p m n (.inr hh)]
 | ret p v r ih=>intro h; simp only [bodyL,exprL_on v fun p m n hh=>h p m n (.inl hh),ih fun p m n hh=>h p m n (.inr hh)]
 | wri p v r ih=>intro h; simp only [bodyL,exprL_on v fun p m n hh=>h p m n (.inl hh),ih fun p m n hh=>h p m n (.inr hh)]
 | call p v r ih=>intro h; simp only [bodyL,exprL_on v fun p m n hh=>h p m n (.inl hh),ih fun p m n hh=>h p m n (.inr hh)]
theorem nameL_bad {c:Env} {p:Nat} {m n:List UInt8} {f:Sy→Look} (h : ∃ e q,c.find p m n = .bad e q) : nameL c p m n f≠none:=by
 obtain ⟨e,q,h⟩:=h
 rw [nameL,h]
 simp
theorem exprL_bad {c:Env} {g x:List UInt8} (hb : ∀ p,∃ e q,c.find p g x = .bad e q) : ∀ e:E,hasE g x e→exprL c e≠none
 | .num _ _,h=>h.elim
 | .var p m n,h=>by
  obtain ⟨rfl,rfl⟩:=h
  exact nameL_bad (hb p)
 | .item p m n i,h=>by
  rw [exprL]
  intro h0
  obtain ⟨h1,h2⟩:=Option.or_eq_none_iff.1 h0
  rcases h with ⟨rfl,rfl⟩ | h
  ·exact nameL_bad (hb p) h1
  ·exact exprL_bad hb i h h2
 | .un _ _ e,h=>by rw [exprL]; exact exprL_bad hb e h
 | .bin _ _ a b,h=>by
  rw [exprL]
  intro h0
  obtain ⟨h1,h2⟩:=Option.or_eq_none_iff.1 h0
  exact h.elim (fun h=>exprL_bad hb a h h1) (fun h=>exprL_bad hb b h h2)
 | .app p m n l,h=>by
  rw [exprL]
  intro h0
  obtain ⟨h1,h2⟩:=Option.or_eq_none_iff.1 h0
  rcases h with ⟨rfl,rfl⟩ | h
  ·exact nameL_bad (hb p) h1
  ·exact exprL_bad hb l h h2
 | .nil,h=>h.elim
 | .cons a b,h=>by
  rw [exprL]
  intro h0
  obtain ⟨h1,h2⟩:=Option.or_eq_none_iff.1 h0
  exact h.elim (fun h=>exprL_bad hb a h h1) (fun h=>exprL_bad hb b h h2)
theorem bodyL_bad {c:Env} {g x:List UInt8} (hb : ∀ p,∃ e q,c.find p g x = .bad e q) (s:S) : hasS g x s→bodyL c s≠none:=by
 have he:=@exprL_bad c g x hb
 induction s with
 | nil=>exact fun h=>h.elim
 | set p n i v r ih=>
  intro h h0
  cases i with
  | none=>
   simp only [bodyL,Option.or_eq_none_iff] at h0
   rcases h with (h | h) | h
   ·exact h
   ·exact he v h h0.1.2
   ·exact ih h h0.2
  | some y=>
   simp only [bodyL,Option.or_eq_none_iff,exprL] at h0
   rcases h with (h | h) | h
   ·exact he y h h0.1.1.2
   ·exact he v h h0.1.2
   ·exact ih h h0.2
 | ifs p v t e r ih1 ih2 ih3=>
  intro h h0
  simp only [bodyL,Option.or_eq_none_iff] at h0
  rcases h with ((h | h) | h) | h
  ·exact he v h h0.1.1.1
  ·exact ih1 h h0.1.1.2
  ·exact ih2 h h0.1.2
  ·exact ih3 h h0.2
 | whil p v t r ih1 ih2=>
  intro h h0
  simp only [bodyL,Option.or_eq_none_iff] at h0
  rcases h with (h | h) | h
  ·exact he v h h0.1.1
  ·exact ih1 h h0.1.2
  ·exact ih2 h h0.2
 | ret p v r ih=>intro h h0; simp only [bodyL,Option.or_eq_none_iff] at h0; exact h.elim (fun h=>he v h h0.1) (fun h=>ih h h0.2)
 | wri p v r ih=>intro h h0; simp only [bodyL,Option.or_eq_none_iff] at h0; exact h.elim (fun h=>he v h h0.1) (fun h=>ih h h0.2)
 | call p v r ih=>intro h h0; simp only [bodyL,Option.or_eq_none_iff] at h0; exact h.elim (fun h=>he v h h0.1) (fun h=>ih h h0.2)
theorem check_lack {m:Mod} {seen:List UInt8→Option (List Sy)} {g x:List UInt8} (hg : g≠[]) (hx : x∈usedL g m) (h0 : findS ((seen g).getD []) x=none) : check m seen ≠ .fine:=by
 intro hf
 rw [check_fine] at hf
 obtain ⟨_,_,h3,h4⟩:=hf
 have hb : ∀ (lo:List (List UInt8)) (p:Nat),∃ e q,Env.find ⟨m.imports,seen,lo,m.vars,m.procs⟩ p g x = .bad e q:=fun lo p=>by
  rw [Env.find,if_pos hg]
  split
  ·exact ⟨_,_,rfl⟩
  ·simp only [h0]; exact ⟨_,_,rfl⟩
 rcases (usedL_mem hg x m).1 hx with ⟨q,hq,hs⟩ | hs
 ·have:=h3 q hq
  rw [procL,Option.or_eq_none_iff] at this
  exact bodyL_bad (hb _) q.body hs this.2
 ·exact bodyL_bad (hb _) m.body hs h4
def lessF (m:Mod) (seen:List UInt8→Option (List Sy)) (n:List UInt8):Option (List Sy):=if n∈m.imports then some (((seen n).getD []).filter fun s=>decide (s.name∈usedL n m)) else none
theorem pick_find (l:List Sy) (n:List UInt8) : (match findS l n with | none=>none | some k=>some (l.getD k Sy.none))=l.find? fun s=>s.name == n:=by
 rw [findS]
 induction l with
 | nil=>rfl
 | cons y r ih=>
  rw [List.findIdx?_cons,List.find?_cons]
  cases hy : (y.name == n) with
  | true=>simp
  | false=>
   simp only [Bool.false_eq_true,if_false]
   rw [← ih]
   cases r.findIdx? (fun s=>s.name == n) with
   | none=>rfl
   | some k=>rfl
theorem find_filter {l:List Sy} {P f:Sy→Bool} (h : ∀ y,f y=true→P y=true) : (l.filter P).find? f=l.find? f:=by
 induction l with
 | nil=>rfl
 | cons y r ih=>
  rw [List.filter_cons,List.find?_cons]
  cases hP:P y with
  | true=>rw [if_pos rfl,List.find?_cons,ih]
  | false=>
   rw [if_neg (by simp),ih]
   cases hf : f y with
   | true=>rw [h y hf] at hP; cases hP
   | false=>rfl
theorem got_eq {l l':List Sy} {n:List UInt8} {p:Nat} (h : (l'.find? fun s=>s.name == n)=l.find? fun s=>s.name == n) : (match findS l' n with | none=>Got.bad 7 p | some k=>.is (l'.getD k Sy.none))=match findS l n with | none=>Got.bad 7 p | some k=>.is (l.getD k Sy.none):=by
 rw [← pick_find,← pick_find] at h
 cases h1 : findS l' n with
 | none=>
  cases h2 : findS l n with
  | none=>rfl
  | some k=>rw [h1,h2] at h; cases h
 | some k'=>
  cases h2 : findS l n with
  | none=>rw [h1,h2] at h; cases h
  | some k=>rw [h1,h2] at h; simp only [Option.some.injEq] at h; simp only [h]
theorem importsL_same {own:List UInt8} {seen seen':List UInt8→Option (List Sy)} : ∀ (l had:List (List UInt8)),(∀ n∈l,(seen' n).isNone=(seen n).isNone)→importsL own seen' had l=importsL own seen had l
 | [],_,_=>rfl
 | x :: r,had,h=>by
  rw [importsL,importsL,h x (by simp),importsL_same r _ fun n hn=>h n (by simp [hn])]
theorem check_less {m:Mod} {seen:List UInt8→Option (List Sy)} (h : check m seen = .fine) : check m (lessF m seen) = .fine:=by
 rw [check_fine] at h ⊢
 obtain ⟨h1,h2,h3,h4⟩:=h
 have hsm : ∀ n∈m.imports,((lessF m seen) n).isNone=(seen n).isNone:=fun n hn=>by
  have:=importsL_some _ _ h1 n hn
  rw [lessF,if_pos hn]
  cases hs : seen n with
  | none=>rw [hs] at this; cases this
  | some l=>rfl
 have hf : ∀ (lo:List (List UInt8)) (p:Nat) (g n:List UInt8),(g=[]∨n∈usedL g m)→Env.find ⟨m.imports,lessF m seen,lo,m.vars,m.procs⟩ p g n=Env.find ⟨m.imports,seen,lo,m.vars,m.procs⟩ p g n:=fun lo p g n hu=>by
  simp only [Env.find]
  by_cases hg : g=[]
  ·subst hg
   simp
  ·rw [if_pos hg,if_pos hg]
   by_cases hi : g∈m.imports
   ·rw [if_neg (by simpa using hi),if_neg (by simpa using hi)]
    have hu:=hu.resolve_left hg
    refine got_eq ?_
    rw [lessF,if_pos hi]
    exact find_filter fun y hy=>by
     have : y.name=n:=by simpa using hy
     simpa [this] using hu
   ·rw [if_pos hi,if_pos hi]
 have hb : ∀ (lo:List (List UInt8)) (s:S),(∀ g n,g≠[]→hasS g n s→n∈usedL g m)→bodyL ⟨m.imports,lessF m seen,lo,m.vars,m.procs⟩ s=bodyL ⟨m.imports,seen,lo,m.vars,m.procs⟩ s:=fun lo s hs=>by
  refine bodyL_on (fun p n=>hf lo p [] n (.inl rfl)) s fun p g n hh=>hf lo p g n ?_
  by_cases hg : g=[]
  ·exact .inl hg
  ·exact .inr (hs g n hg hh)
 refine ⟨by rw [importsL_same _ _ hsm]; exact h1,h2,fun x hx=>?_,?_⟩
 ·have:=h3 x hx
  rw [procL] at this ⊢
  rw [hb _ _ fun g n hg hh=>(usedL_mem hg n m).2 (.inl ⟨x,hx,hh⟩)]
  exact this
 ·rw [hb _ _ fun g n hg hh=>(usedL_mem hg n m).2 (.inr hh)]
  exact h4
end Go.Mq.Check
