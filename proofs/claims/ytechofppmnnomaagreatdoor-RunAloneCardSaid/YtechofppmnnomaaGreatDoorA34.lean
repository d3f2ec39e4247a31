/- Some texts in one. -/
import Derived.Test.YtechofppmnnomaaGreatDoorA28
namespace Go.Mq.Run
open Go Go.RowKit Go.Mq Go.Mq.Tree Go.Mq.Sym
open Go.Mq.Check (Env oL aU lM iB check Out kI tH)
open Go.Mq.Used (dZ)
theorem Nb {c:Env} {p:Nat} {m n:Nm} {f:Sy→Go.Mq.Check.eP} (hm : m≠[]) (h : iB c p m n f=none) : m∈c.imports:=by
 unfold iB at h
 cases hf : c.find p m n with
 | bad e q=>rw [hf] at h;cases h
 | is s=>
  unfold Env.find at hf
  rw [if_pos hm] at hf;split at hf
  ·cases hf
  ·next h=>exact Classical.not_not.1 h
theorem oh {c:Env} {g n:Nm} (hg : g≠[]) : ∀ {e:E},aU c e=none→ik g n e→g∈c.imports
 | .num _ _,_,h=>h.elim
 | .var _ _ _,k,h=>by rw [aU] at k;exact h.1 ▸ Nb (h.1 ▸ hg) k
 | .item _ _ _ i,k,h=>by
  rw [aU,Option.or_eq_none_iff] at k;rcases h with h|h
  ·exact h.1 ▸ Nb (h.1 ▸ hg) k.1
  ·exact oh hg k.2 h
 | .un _ _ x,k,h=>oh (e:=x) hg k h
 | .bin _ _ x y,k,h=>by
  rw [aU,Option.or_eq_none_iff] at k;rcases h with h|h
  ·exact oh hg k.1 h
  ·exact oh hg k.2 h
 | .app _ _ _ l,k,h=>by
  rw [aU,Option.or_eq_none_iff] at k;rcases h with h|h
  ·exact h.1 ▸ Nb (h.1 ▸ hg) k.1
  ·exact oh hg k.2 h
 | .nil,_,h=>h.elim
 | .cons x r,k,h=>by
  rw [aU,Option.or_eq_none_iff] at k;rcases h with h|h
  ·exact oh hg k.1 h
  ·exact oh hg k.2 h
theorem Vg {c:Env} {g n:Nm} (hg : g≠[]) {s:S} (k:Check.aN c s=none) (h:jv g n s) : g∈c.imports:=by
 induction s with
 | nil=>exact h.elim
 | set p m i v r ih=>
  cases i with
  | none=>
   rw [Check.aN,Option.or_eq_none_iff,Option.or_eq_none_iff] at k;rcases h with⟨x,hx,_⟩|h|h
   ·cases hx
   ·exact oh hg k.1.2 h
   ·exact ih k.2 h
  | some i=>
   rw [Check.aN,Option.or_eq_none_iff,Option.or_eq_none_iff,aU,Option.or_eq_none_iff] at k;rcases h with⟨x,hx,h⟩|h|h
   ·cases hx;exact oh hg k.1.1.2 h
   ·exact oh hg k.1.2 h
   ·exact ih k.2 h
 | ifs p v t e r ih1 ih2 ih3=>
  rw [Check.aN,Option.or_eq_none_iff,Option.or_eq_none_iff,Option.or_eq_none_iff] at k;rcases h with h|h|h|h
  ·exact oh hg k.1.1.1 h
  ·exact ih1 k.1.1.2 h
  ·exact ih2 k.1.2 h
  ·exact ih3 k.2 h
 | dB p v t r ih1 ih2=>
  rw [Check.aN,Option.or_eq_none_iff,Option.or_eq_none_iff] at k;rcases h with h|h|h
  ·exact oh hg k.1.1 h
  ·exact ih1 k.1.2 h
  ·exact ih2 k.2 h
 | ret p v r ih=>rw [Check.aN,Option.or_eq_none_iff] at k;rcases h with h|h;exact oh hg k.1 h;exact ih k.2 h
 | dD p v r ih=>rw [Check.aN,Option.or_eq_none_iff] at k;rcases h with h|h;exact oh hg k.1 h;exact ih k.2 h
 | call p v r ih=>rw [Check.aN,Option.or_eq_none_iff] at k;rcases h with h|h;exact oh hg k.1 h;exact ih k.2 h
theorem IQ {m:Mod} {seen:Nm→Option (List Sy)} {g n:Nm} (hg : g≠[]) (h : check m seen = .fine) (k:vH g n m) : g∈m.imports:=by
 obtain⟨_,_,h3,h4⟩:=(kI _ _).1 h;rcases k with⟨x,hx,k⟩|k
 ·have:=h3 x hx
  rw [lM,Option.or_eq_none_iff] at this;exact Vg (c:=⟨m.imports,seen,x.params ++ x.vars,m.vars,m.procs⟩) hg this.2 k
 ·exact Vg (c:=⟨m.imports,seen,[],m.vars,m.procs⟩) hg h4 k
def Nc (a:Nm) (e:E):Prop:=∀ n,¬ ik a n e
def ER (a:Nm) (s:S):Prop:=∀ n,¬ jv a n s
def IU (a:Nm) (m:Mod):Prop:=∀ n,¬ vH a n m
def pF (a:Nm) (V0:Nm→Option (List Int)) (vs:Vs):Vs:=fun q n=>if q=a then V0 n else vs q n
def mM (a:Nm) (V0:Nm→Option (List Int)) (s:St):St:={ s with vs:=pF a V0 s.vs }
def O.over {α:Type} (f:St→St):O α→O α
 | .ok x s=>.ok x (f s)
 | .stop w s=>.stop w (f s)
 | .stuck=>.stuck
def An {α:Type} (a:Nm) (V0:Nm→Option (List Int)) (f f':St→O α):Prop:=∀ s,f' (mM a V0 s)=(f s).over (mM a V0)
section
variable {a:Nm} {V0:Nm→Option (List Int)}
theorem An.bind {α β:Type} {f f':St→O α} {g g' : α→St→O β} (hf:An a V0 f f') (hg : ∀ x,An a V0 (g x) (g' x)):An a V0 (fun s=>(f s).bind g) (fun s=>(f' s).bind g'):=fun s=>by
 show (f' (mM a V0 s)).bind g'=O.over _ ((f s).bind g)
 rw [hf s];cases f s with
 | ok x s1=>exact hg x s1
 | stop w s1=>rfl
 | stuck=>rfl
theorem An.ok {α:Type} (x : α):An a V0 (fun s=>.ok x s) (fun s=>.ok x s):=fun _=>rfl
theorem An.stop {α:Type} (w:Nat):An a V0 (fun s=>(.stop w s:O α)) (fun s=>.stop w s):=fun _=>rfl
theorem An.stuck {α:Type} : An a V0 (fun _=>(.stuck:O α)) (fun _=>.stuck):=fun _=>rfl
theorem An.ite {α:Type} (c:Prop) [Decidable c] {f g f' g':St→O α} (hf : c→An a V0 f f') (hg : ¬ c→An a V0 g g'):An a V0 (fun s=>if c then f s else g s) (fun s=>if c then f' s else g' s):=by
 by_cases h : c
 ·simpa only [if_pos h] using hf h
 ·simpa only [if_neg h] using hg h
theorem zY:An a V0 tick tick:=fun s=>by
 show tick (mM a V0 s)=O.over _ (tick s)
 unfold tick
 by_cases h : s.fuel=0
 ·rw [if_pos h,if_pos (show (mM a V0 s).fuel=0 from h)];rfl
 ·rw [if_neg h,if_neg (show ¬ (mM a V0 s).fuel=0 from h)];rfl
theorem Nf {q:Nm} (hq : q≠a) (n:Nm) (s:St) : (mM a V0 s).vs q n=s.vs q n:=if_neg hq
theorem afq {q:Nm} (hq : q≠a) (x:Nm) (k:Int):An a V0 (fun s=>ib (s.vs q x) k s) (fun s=>ib (s.vs q x) k s):=fun s=>by
 show ib ((mM a V0 s).vs q x) k (mM a V0 s)=O.over _ (ib (s.vs q x) k s)
 rw [Nf hq]
 unfold ib
 cases s.vs q x with
 | none=>rfl
 | some l=>
  simp only;split <;> rfl
theorem Vh {q:Nm} (hq : q≠a) (x:Nm):An a V0 (fun s=>fV (s.vs q x) s) (fun s=>fV (s.vs q x) s):=fun s=>by
 show fV ((mM a V0 s).vs q x) (mM a V0 s)=O.over _ (fV (s.vs q x) s)
 rw [Nf hq]
 unfold fV
 split <;> rfl
theorem afr {q:Nm} (hq : q≠a) (fr:Fr) (x:Nm) (k v:Int):An a V0 (fun s=>ic q fr x k v s) (fun s=>ic q fr x k v s):=fun s=>by
 show ic q fr x k v (mM a V0 s)=O.over _ (ic q fr x k v s)
 unfold ic
 cases dN fr x with
 | some u=>rfl
 | none=>
  simp only;rw [Nf hq];cases s.vs q x with
  | none=>rfl
  | some l=>
   simp only;split
   ·show O.ok _ _=O.ok _ _
    congr 1
    unfold mM
    congr 1
    funext q' n'
    unfold pF oU
    by_cases h1 : q'=a
    ·rw [if_pos h1,if_neg (fun e=>hq (e.1.symm.trans h1))];exact if_pos h1
    ·rw [if_neg h1]
     simp only [if_neg h1]
   ·rfl
theorem afs (fr:Fr) (k:Int):An a V0 (fun s=>if s.out.length=200 then O.stop 6 s else .ok (Fl.go,fr) { s with out:=s.out ++ [k] }) (fun s=>if s.out.length=200 then O.stop 6 s else .ok (Fl.go,fr) { s with out:=s.out ++ [k] }):=fun s=>by
 show (if s.out.length=200 then O.stop 6 (mM a V0 s) else O.ok (Fl.go,fr) { mM a V0 s with out:=s.out ++ [k] })=O.over _ (if s.out.length=200 then O.stop 6 s else .ok (Fl.go,fr) { s with out:=s.out ++ [k] })
 split <;> rfl
end
structure Ng (a:Nm) (V0:Nm→Option (List Int)) (F F':kM):Prop where
 e : ∀ d q fr x,q≠a→Nc a x→An a V0 (F.e d q fr x) (F'.e d q fr x)
 es : ∀ d q fr x,q≠a→Nc a x→An a V0 (F.es d q fr x) (F'.es d q fr x)
 c : ∀ d q p l,q≠a→ER a p.body→An a V0 (F.c d q p l) (F'.c d q p l)
 b : ∀ d q fr x,q≠a→ER a x→An a V0 (F.b d q fr x) (F'.b d q fr x)
 l : ∀ d q fr v t,q≠a→Nc a v→ER a t→An a V0 (F.l d q fr v t) (F'.l d q fr v t)
theorem IV {q m a:Nm} (hq : q≠a) (hm : m≠a) : bV q m≠a:=by
 unfold bV
 split <;> assumption
theorem aft {a:Nm} {x:S} (h:ER a x):ER a (rest x):=fun n k=>by
 cases x with
 | nil=>exact k
 | set _ _ _ _ r=>exact h n (.inr (.inr k))
 | ifs _ _ _ _ r=>exact h n (.inr (.inr (.inr k)))
 | dB _ _ _ r=>exact h n (.inr (.inr k))
 | ret _ _ r=>exact h n (.inr k)
 | dD _ _ r=>exact h n (.inr k)
 | call _ _ r=>exact h n (.inr k)
theorem afu {a:Nm} {V0:Nm→Option (List Int)} {M M':Ms} (hM : ∀ q,q≠a→M' q=M q) (hN : ∀ q m,M q=some m→IU a m) {F F':kM} (h:Ng a V0 F F'):Ng a V0 ⟨kg M F,qV F,lq F,mY F,uX F⟩ ⟨kg M' F',qV F',lq F',mY F',uX F'⟩ where
 e d q fr x hq hx:=by
  show An a V0 (kg M F d q fr x) (kg M' F' d q fr x)
  cases x with
  | num p k=>exact .ok _
  | var p m k=>
   have hm : m≠a:=fun e=>hx k ⟨e,rfl⟩
   show An a V0 (fun s=>if m=[] then match dN fr k with
    | some v=>O.ok v s
    | none=>fV (s.vs q k) s
   else fV (s.vs m k) s) (fun s=>if m=[] then match dN fr k with
    | some v=>O.ok v s
    | none=>fV (s.vs q k) s
   else fV (s.vs m k) s)
   refine .ite _ (fun _=>?_) (fun _=>Vh hm _);cases dN fr k with
   | none=>exact Vh hq _
   | some v=>exact .ok _
  | item p m k i=>
   have hm : m≠a:=fun e=>hx k (.inl ⟨e,rfl⟩)
   show An a V0 (fun s=>if (M (bV q m)).isSome then (F.e d q fr i s).bind fun k' s=>ib (s.vs (bV q m) k) k' s else .stuck) (fun s=>if (M' (bV q m)).isSome then (F'.e d q fr i s).bind fun k' s=>ib (s.vs (bV q m) k) k' s else .stuck)
   rw [hM _ (IV hq hm)];exact .ite _ (fun _=>.bind (h.e _ _ _ _ hq fun n k=>hx n (.inr k)) fun x=>afq (IV hq hm) _ _) (fun _=>.stuck)
  | un p op x=>exact .bind (h.e _ _ _ _ hq hx) fun _=>.ok _
  | bin p op x y=>
   refine .bind (h.e _ _ _ _ hq fun n k=>hx n (.inl k)) fun b=>.ite _ (fun _=>.ite _ (fun _=>.ok _) (fun _=>.bind (h.e _ _ _ _ hq fun n k=>hx n (.inr k)) fun _=>.ok _)) (fun _=>.bind (h.e _ _ _ _ hq fun n k=>hx n (.inr k)) fun c=>?_)
   show An a V0 (fun s=>match both op b c with
    | some k=>O.ok k s
    | none=>.stop 2 s) (fun s=>match both op b c with
    | some k=>O.ok k s
    | none=>.stop 2 s)
   cases both op b c with
   | none=>exact .stop _
   | some k=>exact .ok _
  | app p m k l=>
   have hm : m≠a:=fun e=>hx k (.inl ⟨e,rfl⟩)
   show An a V0 (fun s=>match M (bV q m) with
    | none=>.stuck
    | some mo=>match mo.procs.find? fun p=>p.name == k with
     | none=>.stuck
     | some p=>(F.es d q fr l s).bind fun args s=>F.c d (bV q m) p args s) (fun s=>match M' (bV q m) with
    | none=>.stuck
    | some mo=>match mo.procs.find? fun p=>p.name == k with
     | none=>.stuck
     | some p=>(F'.es d q fr l s).bind fun args s=>F'.c d (bV q m) p args s)
   rw [hM _ (IV hq hm)];cases hmo:M (bV q m) with
   | none=>exact .stuck
   | some mo=>
    show An a V0 (fun s=>match mo.procs.find? fun p=>p.name == k with
     | none=>.stuck
     | some p=>(F.es d q fr l s).bind fun args s=>F.c d (bV q m) p args s) (fun s=>match mo.procs.find? fun p=>p.name == k with
     | none=>.stuck
     | some p=>(F'.es d q fr l s).bind fun args s=>F'.c d (bV q m) p args s)
    cases hp : mo.procs.find? fun p=>p.name == k with
    | none=>exact .stuck
    | some p=>exact .bind (h.es _ _ _ _ hq fun n k=>hx n (.inr k)) fun _=>h.c _ _ _ _ (IV hq hm) fun n k=>hN _ _ hmo n (.inl ⟨p,List.mem_of_find?_eq_some hp,k⟩)
  | nil=>exact .stuck
  | cons x r=>exact .stuck
 es d q fr x hq hx:=by
  show An a V0 (qV F d q fr x) (qV F' d q fr x)
  cases x with
  | nil=>exact .ok _
  | cons x r=>exact .bind (h.e _ _ _ _ hq fun n k=>hx n (.inl k)) fun k=>.bind (h.es _ _ _ _ hq fun n k=>hx n (.inr k)) fun _=>.ok _
  | _=>exact .stuck
 c d q p l hq hp:=.ite _ (fun _=>.stop _) (fun _=>.ite _ (fun _=>.stuck) (fun _=>.bind (h.b _ _ _ _ hq hp) fun _=>.ok _))
 b d q fr x hq hx:=by
  refine .ite _ (fun _=>.ok _) (fun _=>.bind ?_ fun y=>?_)
  ·show An a V0 (fun s=>nU F d q fr x s) (fun s=>nU F' d q fr x s)
   cases x with
   | nil=>exact .stuck
   | set p k i v r=>
    refine .bind zY fun _=>.bind ?_ fun k=>.bind (h.e _ _ _ _ hq fun n k=>hx n (.inr (.inl k))) fun v=>afr hq _ _ _ _
    cases i with
    | none=>exact .ok _
    | some i=>exact h.e _ _ _ _ hq fun n k=>hx n (.inl ⟨i,rfl,k⟩)
   | ifs p v t e r=>exact .bind zY fun _=>.bind (h.e _ _ _ _ hq fun n k=>hx n (.inl k)) fun k=>.ite _ (fun _=>h.b _ _ _ _ hq fun n k=>hx n (.inr (.inr (.inl k)))) (fun _=>h.b _ _ _ _ hq fun n k=>hx n (.inr (.inl k)))
   | dB p v t r=>exact .bind zY fun _=>h.l _ _ _ _ _ hq (fun n k=>hx n (.inl k)) (fun n k=>hx n (.inr (.inl k)))
   | ret p v r=>exact .bind zY fun _=>.bind (h.e _ _ _ _ hq fun n k=>hx n (.inl k)) fun _=>.ok _
   | dD p v r=>exact .bind zY fun _=>.bind (h.e _ _ _ _ hq fun n k=>hx n (.inl k)) fun k=>afs _ _
   | call p v r=>exact .bind zY fun _=>.bind (h.e _ _ _ _ hq fun n k=>hx n (.inl k)) fun _=>.ok _
  ·obtain⟨x1,x2⟩:=y
   cases x1 with
   | go=>exact h.b _ _ _ _ hq (aft hx)
   | ret k=>exact .ok _
 l d q fr v t hq hv ht:=by
  refine .bind (h.e _ _ _ _ hq hv) fun k=>.ite _ (fun _=>.ok _) (fun _=>.bind (h.b _ _ _ _ hq ht) fun x=>?_)
  obtain⟨x1,x2⟩:=x;cases x1 with
  | go=>exact .bind zY fun _=>h.l _ _ _ _ _ hq hv ht
  | ret k=>exact .ok _
theorem Nh {a:Nm} {V0:Nm→Option (List Int)} {M M':Ms} (hM : ∀ q,q≠a→M' q=M q) (hN : ∀ q m,M q=some m→IU a m) : ∀ g,Ng a V0 (fns M g) (fns M' g)
 | 0=>⟨fun _ _ _ _ _ _=>.stuck,fun _ _ _ _ _ _=>.stuck,fun _ _ _ _ _ _=>.stuck,fun _ _ _ _ _ _=>.stuck,fun _ _ _ _ _ _ _ _=>.stuck⟩
 | g + 1=>afu hM hN (Nh hM hN g)
structure Beside (a:Nm) (m0:Mod) (V0:Nm→Option (List Int)) (V W:Wd):Prop where
 M : ∀ q,W.M q=if q=a then some m0 else V.M q
 free:V.M a=none
 vs:W.vs=pF a V0 V.vs
 order:W.order=a :: V.order
 no : ∀ q m,V.M q=some m→a∉m.imports
 lone : ∀ g n,g≠[]→¬ vH g n m0
 nm : a≠[]
section
variable {a:Nm} {m0:Mod} {V0:Nm→Option (List Int)} {V W:Wd}
theorem Beside.other (h:Beside a m0 V0 V W) {q:Nm} (hq : q≠a):W.M q=V.M q:=by rw [h.M,if_neg hq]
theorem Beside.Ni (h:Beside a m0 V0 V W) (hV:Inv V) (q:Nm) (m:Mod) (hm:V.M q=some m):IU a m:=fun _ k=>h.no q m hm (IQ h.nm (hV.ok.fine q m hm) k)
theorem Beside.seen (h:Beside a m0 V0 V W) {x:Mod} (hx : a∉x.imports) : check x (dL W.M)=check x (dL V.M):=Ih fun g hg=>by
 unfold dL
 rw [h.other (fun e=>hx (e ▸ hg))]
theorem Beside.load (h:Beside a m0 V0 V W) (hV:Inv V) (hW:Inv W) {x:Mod} (hn : x.name≠a) (hi : a∉x.imports) {g f:Nat} {r r':Wd × Nat × List Int × Out} (hr : jG g V x f=some r) (hr' : jG g W x f=some r') : r'.2.2.2 = .plain 12∨(r'.2=r.2∧Beside a m0 V0 r.1 r'.1):=by
 unfold jG at hr hr'
 rw [h.other hn,h.seen hi] at hr';split at hr
 ·next h1=>rw [if_pos h1] at hr';cases hr;cases hr';exact .inr ⟨rfl,h⟩
 ·next h1=>
  rw [if_neg h1] at hr';cases hc : check x (dL V.M) with
  | plain k=>rw [hc] at hr hr';cases hr;cases hr';exact .inr ⟨rfl,h⟩
  | at_ e p=>rw [hc] at hr hr';cases hr;cases hr';exact .inr ⟨rfl,h⟩
  | fine=>
   rw [hc] at hr hr';simp only at hr hr';split at hr'
   ·cases hr';exact .inl rfl
   ·split at hr
    ·next h2 h3=>
     exfalso
     have:=hW.few;rw [h.order,List.length_cons] at this;omega
    ·have hset : ∀ q,q≠a→bI W.M x q=bI V.M x q:=fun q hq=>by unfold bI;rw [h.other hq]
     have hno : ∀ q m,bI V.M x q=some m→IU a m:=fun q m hm=>by
      unfold bI at hm
      split at hm
      ·cases hm;exact fun _ k=>hi (IQ h.nm hc k)
      ·exact h.Ni hV q m hm
     have hst : ig W.vs x=pF a V0 (ig V.vs x):=by
      funext q n
      unfold ig pF
      rw [h.vs]
      unfold pF
      by_cases e : q=a
      ·subst e
       rw [if_neg (fun e=>hn e.symm),if_pos rfl,if_pos rfl]
      ·rw [if_neg e,if_neg e]
     have hb:=(Nh (V0:=V0) hset hno g).b 0 x.name [] x.body hn (fun n k=>hi (IQ h.nm hc (.inr k))) ⟨f,[],ig V.vs x⟩;have hs : mM a V0 ⟨f,[],ig V.vs x⟩=⟨f,[],ig W.vs x⟩:=by rw [hst];rfl
     rw [hs] at hb;have hB : ∀ vs,Beside a m0 V0 ⟨bI V.M x,vs,V.order ++ [x.name]⟩ ⟨bI W.M x,pF a V0 vs,W.order ++ [x.name]⟩:=fun vs=>by
      refine⟨fun q=>?_,(nD V.M x (fun e=>hn e.symm)).trans h.free,rfl,by rw [h.order];rfl,fun q m hm=>?_,h.lone,h.nm⟩
      ·show bI W.M x q=if q=a then some m0 else bI V.M x q
       by_cases e : q=a
       ·subst e;rw [if_pos rfl,nD _ _ (fun e=>hn e.symm),h.M,if_pos rfl]
       ·rw [if_neg e];exact hset q e
      ·unfold bI at hm
       simp only at hm;split at hm
       ·cases hm;exact hi
       ·exact h.no q m hm
     cases ho : (fns (bI V.M x) g).b 0 x.name [] x.body ⟨f,[],ig V.vs x⟩ with
     | stuck=>rw [ho] at hr;cases hr
     | ok y s=>rw [ho] at hr hb;rw [hb] at hr';cases hr;cases hr';exact .inr ⟨rfl,hB _⟩
     | stop w s=>rw [ho] at hr hb;rw [hb] at hr';cases hr;cases hr';exact .inr ⟨rfl,hB _⟩
theorem Beside.call (h:Beside a m0 V0 V W) (hV:Inv V) {q n:Nm} {args:List Int} (hq : q≠a) {g f:Nat} {r r':Wd × Nat × List Int × Int × Out} (hr : kr g V q n args f=some r) (hr' : kr g W q n args f=some r') : r'.2=r.2∧Beside a m0 V0 r.1 r'.1:=by
 unfold kr at hr hr'
 rw [h.other hq] at hr';cases hm:V.M q with
 | none=>rw [hm] at hr hr';cases hr;cases hr';exact⟨rfl,h⟩
 | some m=>
  rw [hm] at hr hr';simp only at hr hr';cases hp : m.procs.find? fun p=>p.name == n && p.seen with
  | none=>rw [hp] at hr hr';cases hr;cases hr';exact⟨rfl,h⟩
  | some p=>
   rw [hp] at hr hr';simp only at hr hr';split at hr
   ·next h1=>rw [if_pos h1] at hr';cases hr;cases hr';exact⟨rfl,h⟩
   ·next h1=>
    rw [if_neg h1] at hr';have hb:=(Nh (V0:=V0) (fun q hq=>h.other hq) (h.Ni hV) g).c 0 q p args hq (fun n k=>h.Ni hV q m hm n (.inl ⟨p,List.mem_of_find?_eq_some hp,k⟩)) ⟨f,[],V.vs⟩;have hs : mM a V0 ⟨f,[],V.vs⟩=⟨f,[],W.vs⟩:=by rw [h.vs];rfl
    rw [hs] at hb;have hB : ∀ vs,Beside a m0 V0 ⟨V.M,vs,V.order⟩ ⟨W.M,pF a V0 vs,W.order⟩:=fun vs=>⟨h.M,h.free,rfl,h.order,h.no,h.lone,h.nm⟩
    cases ho : (fns V.M g).c 0 q p args ⟨f,[],V.vs⟩ with
    | stuck=>rw [ho] at hr;cases hr
    | ok y s=>rw [ho] at hr hb;rw [hb] at hr';cases hr;cases hr';exact⟨rfl,hB _⟩
    | stop w s=>rw [ho] at hr hb;rw [hb] at hr';cases hr;cases hr';exact⟨rfl,hB _⟩
theorem Beside.reach (h:Beside a m0 V0 V W) {n b:Nm} (hn : n≠a) (hb : b≠a):Reach W.M n b↔Reach V.M n b:=by
 constructor
 ·intro k
  induction k with
  | refl c=>exact .refl c
  | step hi hr ih=>
   obtain⟨mb,h1,h2⟩:=hi;rw [h.other hn] at h1;exact .step ⟨mb,h1,h2⟩ (ih (fun e=>h.no _ _ h1 (e ▸ h2)) hb)
 ·intro k
  induction k with
  | refl c=>exact .refl c
  | step hi hr ih=>
   obtain⟨mb,h1,h2⟩:=hi;exact .step ⟨mb,(h.other hn).trans h1,h2⟩ (ih (fun e=>h.no _ _ h1 (e ▸ h2)) hb)
theorem afv {m0:Mod} (h : ∀ g n,g≠[]→¬ vH g n m0) {g:Nm} (hg : g≠[]) : dZ g m0=[]:=List.eq_nil_iff_forall_not_mem.2 fun n hn=>h g n hg ((Mg hg n m0).1 hn)
theorem Beside.swap (h:Beside a m0 V0 V W) {x:Mod} (hx : x.name≠[]) (hn : x.name≠a) (hi : a∉x.imports) : (iE W x).2=(iE V x).2∧Beside a m0 V0 (iE V x).1 (iE W x).1:=by
 unfold iE
 rw [h.other hn,h.seen hi];cases ho:V.M x.name with
 | none=>exact⟨rfl,h⟩
 | some old=>
  simp only;cases hc : check x (dL V.M) with
  | plain k=>exact⟨rfl,h⟩
  | at_ e p=>exact⟨rfl,h⟩
  | fine=>
   simp only;have e1 : (∃ n∈x.imports,Reach W.M n x.name) ↔ ∃ n∈x.imports,Reach V.M n x.name:=exists_congr fun n=>and_congr_right fun hm=>h.reach (fun e=>hi (e ▸ hm)) hn
   have e2 : (∃ n∈W.order,∃ mn,W.M n=some mn∧fT (ofM old) (dZ x.name mn)≠fT (ofM x) (dZ x.name mn)) ↔ ∃ n∈V.order,∃ mn,V.M n=some mn∧fT (ofM old) (dZ x.name mn)≠fT (ofM x) (dZ x.name mn):=by
    rw [h.order]
    constructor
    ·rintro⟨n,hm,mn,h1,h2⟩
     by_cases e : n=a
     ·subst e
      rw [h.M,if_pos rfl] at h1;cases h1
      rw [afv h.lone hx] at h2;exact absurd rfl h2
     ·rcases List.mem_cons.1 hm with hm|hm
      ·exact absurd hm e
      ·exact⟨n,hm,mn,(h.other e).symm.trans h1,h2⟩
    ·rintro⟨n,hm,mn,h1,h2⟩
     exact⟨n,List.mem_cons_of_mem _ hm,mn,(h.other (fun e=>by subst e;rw [h.free] at h1;cases h1)).trans h1,h2⟩
   by_cases c1 : ∃ n∈x.imports,Reach V.M n x.name
   ·rw [if_pos c1,if_pos (e1.2 c1)];exact⟨rfl,h⟩
   ·rw [if_neg c1,if_neg (fun k=>c1 (e1.1 k))]
    by_cases c2 : ∃ n∈V.order,∃ mn,V.M n=some mn∧fT (ofM old) (dZ x.name mn)≠fT (ofM x) (dZ x.name mn)
    ·rw [if_pos c2,if_pos (e2.2 c2)];exact⟨rfl,h⟩
    ·rw [if_neg c2,if_neg (fun k=>c2 (e2.1 k))]
     refine⟨rfl,fun q=>?_,?_,?_,h.order,fun q m hm=>?_,h.lone,h.nm⟩
     ·show bI W.M x q=if q=a then some m0 else bI V.M x q
      by_cases e : q=a
      ·subst e;rw [if_pos rfl,nD _ _ (fun e=>hn e.symm),h.M,if_pos rfl]
      ·rw [if_neg e];unfold bI;rw [h.other e]
     ·show bI V.M x a=none
      rw [nD _ _ (fun e=>hn e.symm)];exact h.free
     ·show nC W.vs old x=pF a V0 (nC V.vs old x)
      funext q n
      unfold nC pF
      rw [h.vs]
      unfold pF
      by_cases e : q=a
      ·subst e
       rw [if_neg (fun e=>hn e.symm),if_pos rfl,if_pos rfl]
      ·rw [if_neg e,if_neg e]
     ·have hm : bI V.M x q=some m:=hm
      unfold bI at hm
      split at hm
      ·cases hm;exact hi
      ·exact h.no q m hm
end
theorem Vi {g g':Nat} (h : g≤g') {W:Wd} {q n:Nm} {args:List Int} {fuel:Nat} {r:Wd × Nat × List Int × Int × Out} (hr : kr g W q n args fuel=some r) : kr g' W q n args fuel=some r:=by
 unfold kr at hr ⊢
 cases hm:W.M q with
 | none=>rw [hm] at hr;exact hr
 | some m=>
  rw [hm] at hr;simp only at hr ⊢;cases hp : m.procs.find? fun p=>p.name == n && p.seen with
  | none=>rw [hp] at hr;exact hr
  | some p=>
   rw [hp] at hr;simp only at hr ⊢;split at hr
   ·next h1=>rw [if_pos h1];exact hr
   ·next h1=>
    rw [if_neg h1];rcases (zK W.M h).c 0 q p args ⟨fuel,[],W.vs⟩ with he|he
    ·rw [he] at hr;cases hr
    ·rw [← he];exact hr
theorem Nj {α β:Type} {f g : α→List β} : ∀ {l:List α},(∀ x∈l,f x=g x)→l.flatMap f=l.flatMap g
 | [],_=>rfl
 | x :: r,h=>by rw [List.flatMap_cons,List.flatMap_cons,h x (by simp),Nj fun y hy=>h y (by simp [hy])]
theorem afw {m:Mod} {g f:Nat} {r:Wd × Nat × List Int × Out} (hg:lW m) (hr : jG g Wd.zero m f=some r) (hI:Inv r.1) (hk : r.2.2.2 = .fine):Beside m.name m (r.1.vs m.name) Wd.zero r.1:=by
 have hnm : m.name≠[]:=by
  obtain⟨⟨c,r,h,_⟩,_⟩:=hg.wf.name;rw [h];simp
 have key : r.1.M=bI Wd.zero.M m∧r.1.order=[m.name]∧check m (dL Wd.zero.M) = .fine:=by
  unfold jG at hr
  split at hr
  ·cases hr;cases hk
  ·cases hc : check m (dL Wd.zero.M) with
   | plain k=>rw [hc] at hr;cases hr;cases hk
   | at_ e p=>rw [hc] at hr;cases hr;cases hk
   | fine=>
    rw [hc] at hr;simp only at hr;split at hr
    ·cases hr;cases hk
    ·split at hr
     ·cases hr
     ·cases hr;exact⟨rfl,rfl,rfl⟩
     ·cases hr;exact⟨rfl,rfl,rfl⟩
 obtain⟨k1,k2,k3⟩:=key;have himp : m.imports=[]:=List.eq_nil_iff_forall_not_mem.2 fun g hg=>by
  have:=tH _ _ ((kI _ _).1 k3).1 g hg;cases this
 refine⟨fun q=>by rw [k1];rfl,rfl,?_,k2,(fun q x h=>by cases h),(fun g n hg hr=>?_),hnm⟩
 ·funext q n
  unfold pF
  by_cases e : q=m.name
  ·rw [if_pos e,e]
  ·rw [if_neg e]
   have:=hI.shape q n;rw [k1,nD _ _ e] at this;cases h : r.1.vs q n with
   | none=>rfl
   | some l=>rw [h] at this;cases this
 ·have:=IQ hg k3 hr
  rw [himp] at this;cases this
end Go.Mq.Run
namespace Go.Proofs.YtechofppmnnomaaGreatDoor
open Go Go.RowKit Go.Mq Go.Mq.Tree Go.Mq.Sym Go.Mq.Run
open Go.Mq.Check (check Out)
def Apart (a:Run.Nm) (x:Ac):Prop:=x.name≠a ∧ ∀ m,parse x.text = .ok m→m.name≠a∧a∉m.imports
theorem afx {a:Run.Nm} {m0:Mod} {V0:Run.Nm→Option (List Int)} {V W:Wd} (h:Beside a m0 V0 V W) (hV:Inv V) (hW:Inv W) {x:Ac} (hx:Apart a x) (ht : x.text.length≤1000) {g g' f:Nat} {r r':Wd × Nat × List Int × Int × Int} (hr : qw g V x f=some r) (hr' : qw g' W x f=some r') : r'.2.2.2.2=12∨(r'.2=r.2∧Beside a m0 V0 r.1 r'.1):=by
 unfold qw at hr hr'
 split at hr
 ·next h1=>
  rw [if_pos h1] at hr';obtain⟨s,h2,rfl⟩:=Option.map_eq_some_iff.1 hr;obtain⟨s',h2',rfl⟩:=Option.map_eq_some_iff.1 hr';obtain⟨e,hb⟩:=h.call hV hx.1 (Vi (Nat.le_max_left g g') h2) (Vi (Nat.le_max_right g g') h2');exact .inr ⟨by rw [e],hb⟩
 ·next h1=>
  rw [if_neg h1] at hr';cases hp : parse x.text with
  | bad en p=>rw [hp] at hr hr';cases hr;cases hr';exact .inr ⟨rfl,h⟩
  | ok m=>
   obtain⟨hn,hi⟩:=hx.2 m hp;rw [hp] at hr hr';simp only at hr hr';split at hr
   ·next h2=>
    rw [if_pos h2] at hr';cases hr;cases hr'
    have hnm : m.name≠[]:=by
     obtain⟨⟨c,r,h,_⟩,_⟩:=(zD ht hp).wf.name;rw [h];simp
    obtain⟨e,hb⟩:=h.swap hnm hn hi;exact .inr ⟨by rw [e],hb⟩
   ·next h2=>
    rw [if_neg h2] at hr';obtain⟨s,h3,rfl⟩:=Option.map_eq_some_iff.1 hr;obtain⟨s',h3',rfl⟩:=Option.map_eq_some_iff.1 hr';rcases h.load hV hW hn hi (Ui (Nat.le_max_left g g') h3) (Ui (Nat.le_max_right g g') h3') with e|⟨e,hb⟩
    ·exact .inl (by simp only [e];rfl)
    ·exact .inr ⟨by rw [e],hb⟩
theorem afy {W:Wd} {q n:Run.Nm} {args:List Int} {g f:Nat} {r:Wd × Nat × List Int × Int × Out} (h : kr g W q n args f=some r) : r.2.2.1.length≤200:=by
 unfold kr at h
 cases hm:W.M q with
 | none=>rw [hm] at h;cases h;simp
 | some m=>
  rw [hm] at h;simp only at h;cases hp : m.procs.find? fun p=>p.name == n && p.seen with
  | none=>rw [hp] at h;cases h;simp
  | some p=>
   rw [hp] at h;simp only at h;split at h
   ·cases h;simp
   ·have ha:=(along Uj W.M g).c 0 q p args ⟨f,[],W.vs⟩
    cases hb : (fns W.M g).c 0 q p args ⟨f,[],W.vs⟩ with
    | stuck=>rw [hb] at h;cases h
    | ok x s=>rw [hb] at h ha;cases h;exact ha (by simp)
    | stop w s=>rw [hb] at h ha;cases h;exact ha (by simp)
theorem Vj {g:Nat} {W:Wd} {x:Ac} {f:Nat} {r:Wd × Nat × List Int × Int × Int} (h : qw g W x f=some r) : r.2.2.1.length≤200:=by
 unfold qw at h
 split at h
 ·obtain⟨s,h1,rfl⟩:=Option.map_eq_some_iff.1 h
  exact afy h1
 ·cases hp : parse x.text with
  | bad en p=>rw [hp] at h;cases h;simp
  | ok m=>
   rw [hp] at h;simp only at h;split at h
   ·cases h;simp
   ·obtain⟨s,h1,rfl⟩:=Option.map_eq_some_iff.1 h
    exact adX h1
theorem afz {l:List bJ} : (∀ g∈l,g.len≤30) → ∀ {n:Run.Nm} {x:List Int},lU l n=some x→x.length≤31:=by
 refine TF (P:=fun l=>(∀ g∈l,g.len≤30) → ∀ {n:Run.Nm} {x:List Int},lU l n=some x→x.length≤31) ?_ ?_ l
 ·intro _ n x h;cases h
 ·intro l g ih hl n x h
  rw [Lr] at h;simp only at h;split at h
  ·cases h
   have:=hl g (by simp);simp only [zeros,jm,List.length_replicate];omega
  ·exact ih (fun y hy=>hl y (by simp [hy])) h
theorem afA {W:Wd} (hI:Run.Inv W) {q n:Run.Nm} {l:List Int} (h:W.vs q n=some l) : l.length≤31:=by
 have:=hI.shape q n;rw [h] at this;cases hm:W.M q with
 | none=>rw [hm] at this;cases this
 | some m=>
  rw [hm] at this;simp only [Option.map_some,Option.bind_some] at this;obtain⟨x,hx,he⟩:=Option.map_eq_some_iff.1 this.symm;have:=afz (fun g hg=>((hI.ok.good q m hm).1.wf.vars g hg).high) hx;omega
theorem Vk : ∀ (k:Nat) (u:Int),(vJ k u).length=2 * k
 | 0,_=>rfl
 | k + 1,u=>by rw [vJ,List.length_append,Vk k];simp only [pairT,List.length_cons,List.length_nil];omega
theorem IW {α:Type} {f : α→List UInt8} {b:Nat} : ∀ {l:List α},(∀ x∈l,(f x).length≤b)→(l.flatMap f).length≤l.length * b
 | [],_=>by simp
 | x :: r,h=>by
  have h1:=h x (by simp);have h2:=IW (l:=r) fun y hy=>h y (by simp [hy])
  rw [List.flatMap_cons,List.length_append,List.length_cons,Nat.add_mul];omega
theorem afB {W:Wd} (hI:Run.Inv W) : (allT W).length≤30000:=by
 have hv : ∀ q v,v∈pq→(sF W q v).length≤497:=fun q v hv=>by
  have h1 : v.length=1:=by
   simp only [pq,List.mem_cons,List.not_mem_nil,or_false] at hv;rcases hv with rfl|rfl|rfl|rfl|rfl <;> rfl
  unfold sF
  cases hg : pg W q v with
  | none=>simp
  | some l=>
   have h2 : l.length≤31:=by
    unfold pg at hg
    obtain⟨_,_,h⟩:=Option.bind_eq_some_iff.1 hg;exact afA hI h
   have h3 : (Im l).length≤l.length * 16:=IW fun x _=>Nat.le_of_eq (Vk 8 _)
   simp only [List.length_append];omega
 have hm : ∀ q∈W.order,(qE W q).length≤3000:=fun q hq=>by
  obtain⟨m,hm⟩:=Option.isSome_iff_exists.1 ((hI.order q).1 hq);obtain⟨h1,h2⟩:=hI.ok.good q m hm;have h3 : q.length≤10:=by rw [← h2];exact h1.wf.name.2.2
  have h4:=IW (l:=pq) (hv q);simp only [pq,List.length_cons,List.length_nil] at h4;simp only [qE,pq,List.length_append,List.length_cons,List.length_nil];omega
 have h1:=IW (l:=W.order) hm;have h2:=hI.few
 unfold allT
 omega
def IX (a:Run.Nm) (V0:Run.Nm→Option (List Int)):List UInt8:=a ++ pq.flatMap (fun v=>match V0 v with
  | none=>[45]
  | some l=>v ++ Im l) ++ [59]
theorem Vl {a:Run.Nm} {m0:Mod} {V0:Run.Nm→Option (List Int)} {V W:Wd} (h:Beside a m0 V0 V W) (hV:Inv V) : allT W=IX a V0 ++ allT V:=by
 have h1 : ∀ q n,q≠a→pg W q n=pg V q n:=fun q n hq=>by
  unfold pg
  rw [h.other hq,h.vs]
  unfold pF
  rw [if_neg hq]
 have h2 : ∀ n,pg W a n=V0 n:=fun n=>by
  unfold pg
  rw [h.M,if_pos rfl,h.vs]
  unfold pF
  rw [if_pos rfl];rfl
 unfold allT
 rw [h.order,List.flatMap_cons]
 congr 1
 ·unfold qE IX
  congr 2
  refine Nj fun v _=>?_
  unfold sF
  rw [h2 v];cases V0 v <;> rfl
 ·refine Nj fun q hq=>?_
  have hq : q≠a:=fun e=>by
   subst e;have:=(hV.order q).1 hq;rw [h.free] at this;cases this
  unfold qE sF
  simp only [h1 q _ hq]
end Go.Proofs.YtechofppmnnomaaGreatDoor
