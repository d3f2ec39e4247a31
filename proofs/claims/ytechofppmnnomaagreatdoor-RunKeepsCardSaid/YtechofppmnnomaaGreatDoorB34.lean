/- Some texts in one. -/
import Derived.Test.YtechofppmnnomaaGreatDoorB28
namespace Go.Proofs.YtechofppmnnomaaGreatDoor
open Go Go.RowKit Go.Mq Go.Mq.Tree Go.Mq.Sym Go.Mq.Run
open Go.Mq.Check (Env oH check Out kU bA aQ lG dV ic eu fU dX)
theorem ae3 {M:Ms} {a b c:Run.Nm} (h:Run.Reach M a b) (k:kg M c b):Run.Reach M a c:=by
 induction h with
 | refl a=>exact .step k (.refl _)
 | step i _ ih=>exact .step i (ih k)
theorem ae4 {M:Ms} (ha : ∀ q,Acc (kg M) q) {q n:Run.Nm} (hi:kg M n q) (hr:Run.Reach M n q):False:=by
 have h : ∀ b,Acc (kg M) b → ∀ n,kg M n b→Run.Reach M n b→False:=fun b hb=>by
  induction hb with
  | intro b _ ih=>
   intro n hi hr;cases hr with
   | refl=>exact ih _ hi _ hi (.refl _)
   | step i hr2=>exact ih n hi _ i (ae3 hr2 hi)
 exact h q (ha q) n hi hr
theorem MU {W:Wd} (h:Inv W) {m old:Mod} (ho:W.M m.name=some old) (hc : check m (dP W.M) = .fine) (hi : m.imports=old.imports) (hs : ofM m=ofM old) : fE W m=(⟨bT W.M m,jD W.vs old m,W.order⟩,.fine):=by
 rw [fE,ho];simp only;rw [hc];simp only;rw [if_neg,if_neg]
 ·rintro⟨n,_,mn,_,hne⟩
  rw [hs] at hne;exact hne rfl
 ·rintro⟨n,hn,hr⟩
  exact ae4 h.zO ⟨old,ho,hi ▸ hn⟩ hr
theorem II {W:Wd} (h:Inv W) {q n:Run.Nm} {m:Mod} (hq:W.M q=some m) (hn : ∀ g∈m.vars,g.name≠n):W.vs q n=none:=by
 have hs:=h.shape q n;rw [hq] at hs;have : jf m.vars n=none:=by
  cases e : jf m.vars n with
  | none=>rfl
  | some l=>
   obtain⟨g,hg,hgn⟩:=(Ia (l:=m.vars) (n:=n)).2 (by rw [e];rfl);exact absurd hgn (hn g hg)
 simp only [Option.bind_some,this,Option.map_none,Option.map_eq_none_iff] at hs;exact hs
theorem ae5 {M:Ms} {m:Mod} (h:M m.name=some m) : bT M m=M:=by
 funext q
 unfold bT
 split
 ·next e=>rw [e,h]
 ·rfl
theorem MV {old m:Mod} {n:Run.Nm} (h : ∃ g∈m.vars,g.name=n∧g∈old.vars) : xP old m n=true:=by
 obtain⟨g,h1,h2,h3⟩:=h;simp only [xP,List.any_eq_true,Bool.and_eq_true,beq_iff_eq];exact⟨g,h1,h2,g,h3,h2,rfl⟩
theorem ae6 {W:Wd} (h:Inv W) {m:Mod} (hm:W.M m.name=some m) : fE W m=(W,.fine):=by
 rw [MU h hm (h.ok.fine _ _ hm) rfl rfl,ae5 hm];have : jD W.vs m m=W.vs:=by
  funext q n
  unfold jD
  by_cases e : q=m.name
  ·subst e
   rw [if_pos rfl];by_cases hn : ∃ g∈m.vars,g.name=n
   ·obtain⟨g,h1,h2⟩:=hn
    rw [if_pos (MV ⟨g,h1,h2,h1⟩)]
   ·have h1 : ∀ g∈m.vars,g.name≠n:=fun g hg e=>hn ⟨g,hg,e⟩
    rw [II h hm h1];split
    ·rfl
    ·cases e : jf m.vars n with
     | none=>rfl
     | some l=>exact absurd ((Ia (l:=m.vars) (n:=n)).2 (by rw [e];rfl)) hn
  ·rw [if_neg e]
 rw [this]
def xZ:bJ:=⟨[102,114,101,115,104],0,2,false⟩
def ja (m:Mod):Mod:=⟨m.name,m.imports,xZ :: m.vars,m.procs,m.body⟩
structure EO (m:Mod):Prop where
 few : m.vars.length < 10
 vars : ∀ g∈m.vars,g.name≠[102,114,101,115,104]
 procs : ∀ x∈m.procs,x.name≠[102,114,101,115,104]
theorem U0 {m:Mod} (h:kL m) (hf:EO m):kL (ja m):=by
 have hl:=hf.few;refine⟨⟨h.few.imports,by simp [ja];omega,h.few.procs,h.few.params,h.few.bodies,h.few.body⟩,⟨h.wf.name,h.wf.imports,h.wf.few,fun g hg=>?_,by simp [ja];omega,h.wf.procs,h.wf.tq,h.wf.body⟩,h.cnt⟩;rcases List.mem_cons.1 hg with rfl|hg
 ·exact⟨⟨⟨_,_,rfl,by decide,by decide⟩,by decide,by decide⟩,by decide,by decide⟩
 ·exact h.wf.vars g hg
theorem IJ {im:List Run.Nm} {seen:Run.Nm→Option (List Sy)} {lo:List Run.Nm} {m:Mod} (hf:EO m) (p:Nat) (g n:Run.Nm):xO (Env.find ⟨im,seen,lo,m.vars,m.procs⟩ p g n) (Env.find ⟨im,seen,lo,xZ :: m.vars,m.procs⟩ p g n):=by
 by_cases hn : n=[102,114,101,115,104]
 ·subst hn
  intro s hs;refine⟨s,?_,.rfl s⟩
  unfold Env.find at hs ⊢
  split
  ·next h1=>rw [if_pos h1] at hs;exact hs
  ·next h1=>
   rw [if_neg h1] at hs;split
   ·next h2=>rw [if_pos h2] at hs;exact hs
   ·next h2=>
    rw [if_neg h2] at hs
    exfalso
    simp only at hs;rw [List.find?_eq_none.2 (fun g hg=>by simpa using hf.vars g hg),List.find?_eq_none.2 (fun x hx=>by simpa using hf.procs x hx)] at hs;cases hs
 ·have : (xZ.name == n)=false:=by simpa [xZ] using fun e=>hn (Eq.symm e)
  have:Env.find ⟨im,seen,lo,xZ :: m.vars,m.procs⟩ p g n=Env.find ⟨im,seen,lo,m.vars,m.procs⟩ p g n:=by
   simp only [Env.find,List.find?_cons,this]
  rw [this];exact .rfl _
theorem ae7 {m:Mod} {seen:Run.Nm→Option (List Sy)} (hf:EO m) (h : check m seen = .fine) : check (ja m) seen = .fine:=by
 rw [kU] at h ⊢;obtain⟨h1,h2,h3,h4⟩:=h;refine⟨h1,?_,fun x hx=>?_,Hy (fun p n=>IJ hf p [] n) _ (fun p g n _=>IJ hf p g n) h4⟩
 ·show ([102,114,101,115,104] :: (m.vars.map (·.name) ++ m.procs.map (·.name))).Nodup
  rw [List.nodup_cons];refine⟨fun hm=>?_,h2⟩;rcases List.mem_append.1 hm with hm|hm
  ·obtain⟨g,hg,e⟩:=List.mem_map.1 hm;exact hf.vars g hg e
  ·obtain⟨g,hg,e⟩:=List.mem_map.1 hm;exact hf.procs g hg e
 ·have:=h3 x hx
  rw [lG,Option.or_eq_none_iff] at this ⊢;exact⟨this.1,Hy (fun p n=>IJ hf p [] n) _ (fun p g n _=>IJ hf p g n) this.2⟩
noncomputable def nC (W:Wd) (m:Mod):Wd:=⟨bT W.M (ja m),jD W.vs m (ja m),W.order⟩
theorem MW {W:Wd} (h:Inv W) {m:Mod} (hm:W.M m.name=some m) (q n:Run.Nm) (hn : q=m.name→n≠[102,114,101,115,104]) : (nC W m).vs q n=W.vs q n:=by
 show jD W.vs m (ja m) q n=W.vs q n
 unfold jD
 by_cases e : q=m.name
 ·have hn:=hn e
  subst e;rw [if_pos (show m.name=(ja m).name from rfl)];by_cases hg : ∃ g∈m.vars,g.name=n
  ·obtain⟨g,h1,h2⟩:=hg
   rw [if_pos (MV ⟨g,List.mem_cons_of_mem _ h1,h2,h1⟩)]
  ·rw [II h hm (fun g hg' e=>hg ⟨g,hg',e⟩)]
   split
   ·rfl
   ·cases e : jf (ja m).vars n with
    | none=>rfl
    | some l=>
     obtain⟨g,h1,h2⟩:=(Ia (l:=(ja m).vars) (n:=n)).2 (by rw [e];rfl);rcases List.mem_cons.1 h1 with rfl|h1
     ·exact absurd h2.symm (hn rfl)
     ·exact absurd ⟨g,h1,h2⟩ hg
 ·exact if_neg (show q≠(ja m).name from e)
theorem ae8 {W:Wd} (h:Inv W) {m:Mod} (hm:W.M m.name=some m) (hf:EO m) : fE W (ja m)=(nC W m,.fine)∧Inv (nC W m)∧qy (nC W m) m.name [102,114,101,115,104]=some [0,0]∧fE (nC W m) m=(W,.fine)∧qy W m.name [102,114,101,115,104]=none:=by
 have hc:=ae7 hf (h.ok.fine _ _ hm);have h1 : fE W (ja m)=(nC W m,.fine):=MU h hm hc rfl rfl;have hI:Inv (nC W m):=by have:=L9 h (U0 (h.ok.good _ _ hm).1 hf);rw [h1] at this;exact this
 have mO : (nC W m).M m.name=some (ja m):=o6 W.M (ja m);refine⟨h1,hI,?_,?_,by rw [Ep hm];exact II h hm hf.vars⟩
 ·rw [Ep mO]
  show jD W.vs m (ja m) m.name [102,114,101,115,104]=_
  unfold jD
  rw [if_pos (show m.name=(ja m).name from rfl),if_neg]
  ·exact Bv (l:=(ja m).vars) (Ib hI.ok mO) (g:=xZ) (List.mem_cons_self ..)
  ·intro hk
   simp only [xP,List.any_eq_true,Bool.and_eq_true,beq_iff_eq] at hk;obtain⟨_,_,_,g,h3,h4,_⟩:=hk;exact hf.vars g h3 h4
 ·have hse : dP (nC W m).M=dP W.M:=by
   funext q
   show dP (bT W.M (ja m)) q=_
   rw [Bw];split
   ·next e=>rw [e];show _=(W.M m.name).map ofM;rw [hm];rfl
   ·rfl
  rw [MU hI mO (by rw [hse];exact h.ok.fine _ _ hm) rfl rfl];have e1 : bT (nC W m).M m=W.M:=by
   funext q
   unfold bT
   split
   ·next e=>rw [e,hm]
   ·next e=>exact qp W.M (ja m) e
  have e2 : jD (nC W m).vs (ja m) m=W.vs:=by
   funext q n
   unfold jD
   by_cases e : q=m.name
   ·subst e
    rw [if_pos rfl];by_cases hg : ∃ g∈m.vars,g.name=n
    ·obtain⟨g,h1,h2⟩:=hg
     rw [if_pos (MV ⟨g,h1,h2,List.mem_cons_of_mem _ h1⟩)];exact MW h hm _ _ fun _ e=>hf.vars g h1 (h2.trans e)
    ·have hno : ∀ g∈m.vars,g.name≠n:=fun g hg' e=>hg ⟨g,hg',e⟩
     rw [II h hm hno,if_neg]
     ·cases e : jf m.vars n with
      | none=>rfl
      | some l=>exact absurd ((Ia (l:=m.vars) (n:=n)).2 (by rw [e];rfl)) hg
     ·intro hk
      simp only [xP,List.any_eq_true,Bool.and_eq_true,beq_iff_eq] at hk;obtain⟨g,h3,h4,_⟩:=hk;exact hno g h3 h4
   ·rw [if_neg e];exact MW h hm _ _ fun k=>absurd k e
  rw [e1,e2]
  rfl
theorem ae9 {W:Wd} (h:Inv W) {m:Mod} (hm:W.M m.name=some m) : allT (nC W m)=allT W:=by
 have hg : ∀ q,∀ n∈sD,qy (nC W m) q n=qy W q n:=fun q n hn=>by
  have hv : (nC W m).vs q n=W.vs q n:=MW h hm q n fun _ e=>by rw [e] at hn;revert hn;decide
  by_cases e : q=m.name
  ·rw [Ep (m:=ja m) (by rw [e];exact o6 W.M (ja m)),Ep (m:=m) (by rw [e];exact hm),hv]
  ·have hM : (nC W m).M q=W.M q:=qp W.M (ja m) e
   simp only [qy,hM,hv]
 show W.order.flatMap _=_
 refine congrArg (fun f=>W.order.flatMap f) (funext fun q=>?_)
 unfold uF
 have : sD.flatMap (uu (nC W m) q)=sD.flatMap (uu W q):=by
  simp only [List.flatMap]
  congr 1
  refine List.map_congr_left fun n hn=>?_
  simp only [uu,hg q n hn]
 rw [this]
theorem ae' {g:Nat} {W:Wd} {q n:Run.Nm} {args:List Int} {f:Nat} {r:Wd × Nat × List Int × Int × Out} (h : mF g W q n args f=some r) : r.1.M=W.M:=by
 unfold mF at h
 repeat' split at h
 all_goals first
  | (cases h;rfl)
  | (cases h;done)
def NZ (l:dX):Prop:=∀ e p,l=some (e,p)→e≠0
theorem NZ.none:NZ .none:=fun _ _ h=>by cases h
theorem NZ.or {a b:dX} (h:NZ a) (k:NZ b):NZ (a.or b):=by
 cases a with
 | none=>exact k
 | some x=>exact h
theorem NZ.name {c:Env} {p:Nat} {m n:Run.Nm} {f:Sy→dX} (h : ∀ s,NZ (f s)):NZ (ic c p m n f):=by
 unfold ic
 cases hc : c.find p m n with
 | is s=>exact h s
 | bad e q=>
  intro _ _ hh;cases hh
  unfold Env.find at hc
  repeat' split at hc
  all_goals first
   | (cases hc;done)
   | (cases hc;decide)
theorem NZ.expr (c:Env) : ∀ e,NZ (bA c e)
 | .num _ _=>.none
 | .var _ _ _=>.name fun s=>by
   split
   ·exact fun _ _ h=>by cases h;decide
   ·exact .none
 | .item _ _ _ i=>.or (.name fun s=>by
   split
   ·exact fun _ _ h=>by cases h;decide
   ·exact .none) (NZ.expr c i)
 | .un _ _ x=>NZ.expr c x
 | .bin _ _ x y=>.or (NZ.expr c x) (NZ.expr c y)
 | .app _ _ _ l=>.or (.name fun s=>by
   split
   ·exact fun _ _ h=>by cases h;decide
   ·split
    ·exact fun _ _ h=>by cases h;decide
    ·exact .none) (NZ.expr c l)
 | .nil=>.none
 | .cons x r=>.or (NZ.expr c x) (NZ.expr c r)
theorem NZ.body (c:Env) (s:S):NZ (aQ c s):=by
 have h:=NZ.expr c
 induction s with
 | nil=>exact .none
 | set p n i v r ih=>cases i <;> exact .or (.or (h _) (h _)) ih
 | ifs p v t e r ih1 ih2 ih3=>exact .or (.or (.or (h _) ih1) ih2) ih3
 | dE p v t r ih1 ih2=>exact .or (.or (h _) ih1) ih2
 | ret p v r ih=>exact .or (h _) ih
 | dI p v r ih=>exact .or (h _) ih
 | call p v r ih=>exact .or (h _) ih
theorem NZ.once : ∀ (l:List (Run.Nm × Nat)) (had:List Run.Nm),NZ (eu had l)
 | [],_=>.none
 | (n,p) :: r,had=>by
  rw [eu];split
  ·exact fun _ _ h=>by cases h;decide
  ·exact NZ.once r _
theorem NZ.procs (m:Mod) (seen:Run.Nm→Option (List Sy)) : ∀ l,NZ (dV m seen l)
 | []=>.none
 | _ :: r=>.or (.or (.once _ _) (.body _ _)) (NZ.procs m seen r)
theorem U1 {own:Run.Nm} {seen:Run.Nm→Option (List Sy)} : ∀ (l had:List Run.Nm) (e:Nat),fU own seen had l=some e→e≠0
 | [],_,_,h=>by cases h
 | n :: r,had,e,h=>by
  rw [fU] at h;split at h
  ·cases h;decide
  ·split at h
   ·cases h;decide
   ·exact U1 r _ e h
theorem U2 {m:Mod} {seen:Run.Nm→Option (List Sy)} (h : ku (check m seen)=0) : check m seen = .fine:=by
 unfold check at h ⊢
 cases hi : fU m.name seen [] m.imports with
 | some e=>rw [hi] at h;exact absurd (by simpa [ku] using h) (U1 _ _ e hi)
 | none=>
  rw [hi] at h;simp only at h ⊢;have hz:NZ (((eu [] (m.vars.map (fun g=>(g.name,g.pos)) ++ m.procs.map fun x=>(x.name,x.pos))).or (dV m seen m.procs)).or (aQ ⟨m.imports,seen,[],m.vars,m.procs⟩ m.body)):=.or (.or (.once _ _) (.procs _ _ _)) (.body _ _)
  revert h hz
  generalize ((eu [] (m.vars.map (fun g=>(g.name,g.pos)) ++ m.procs.map fun x=>(x.name,x.pos))).or (dV m seen m.procs)).or (aQ ⟨m.imports,seen,[],m.vars,m.procs⟩ m.body)=o
  intro h hz;cases o with
  | none=>rfl
  | some x=>exact absurd (by simpa [ku,Out.of] using h) (hz x.1 x.2 rfl)
theorem afa {g:Nat} {W:Wd} {m:Mod} {f:Nat} {r:Wd × Nat × List Int × Out} (h : mi g W m f=some r) (hn : ku r.2.2.2=0) : r.1.M=bT W.M m:=by
 unfold mi at h
 split at h
 ·cases h;cases hn
 ·have hz:=U2 (m:=m) (seen:=dP W.M)
  cases hc : check m (dP W.M) with
  | plain k=>rw [hc] at h hz;cases h;cases hz hn
  | at_ e p=>rw [hc] at h hz;cases h;cases hz hn
  | fine=>
   rw [hc] at h;simp only at h;split at h
   ·cases h;cases hn
   ·split at h
    ·cases h
    ·cases h;rfl
    ·cases h;rfl
theorem afb {W:Wd} {m:Mod} (hn : ku (fE W m).2=0) : (fE W m).1.M=bT W.M m:=by
 have hz:=U2 (m:=m) (seen:=dP W.M);rw [fE] at hn ⊢;cases ho:W.M m.name with
 | none=>rw [ho] at hn;cases hn
 | some old=>
  rw [ho] at hn;simp only at hn ⊢;cases hc : check m (dP W.M) with
  | plain k=>rw [hc] at hn hz;cases hz hn
  | at_ e p=>rw [hc] at hn hz;cases hz hn
  | fine=>
   rw [hc] at hn;simp only at hn ⊢;split
   ·next h=>rw [if_pos h] at hn;cases hn
   ·next h=>
    rw [if_neg h] at hn;split
    ·next h=>rw [if_pos h] at hn;cases hn
    ·rfl
theorem MX {g:Nat} {W:Wd} {x:Ac} {f:Nat} {r:Wd × Nat × List Int × Int × Int} (h : o7 g W x f=some r) :
  (∀ m,parse x.text = .ok m→r.2.2.2.2=0→x.what≠1→r.1.M=bT W.M m)∧((r.2.2.2.2≠0∨x.what=1)→r.1.M=W.M)∧(∀ en p,parse x.text = .bad en p→r.1.M=W.M):=by
 have h1 : x.what=1→r.1.M=W.M:=fun e=>by
  rw [o7,if_pos e] at h;obtain⟨r',h1,rfl⟩:=Option.map_eq_some_iff.1 h;exact ae' h1
 refine⟨fun m hm h0 hw=>?_,fun hh=>hh.elim (fun hn=>by rw [(adB h hn).1]) h1,fun en p hp=>?_⟩
 ·rw [o7,if_neg hw,hm] at h
  simp only at h;split at h
  ·cases h;exact afb h0
  ·obtain⟨r',h2,rfl⟩:=Option.map_eq_some_iff.1 h
   exact afa h2 h0
 ·by_cases e : x.what=1
  ·exact h1 e
  ·rw [o7,if_neg e,hp] at h
   cases h;rfl
end Go.Proofs.YtechofppmnnomaaGreatDoor
