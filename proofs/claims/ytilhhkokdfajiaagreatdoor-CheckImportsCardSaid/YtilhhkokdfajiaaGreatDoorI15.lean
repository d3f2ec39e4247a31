/- Some texts in one. -/
import Derived.MapKept
import Derived.BigQuiet
import Derived.Test.YtilhhkokdfajiaaGreatDoorI4
import Derived.Test.YtilhhkokdfajiaaGreatDoorI6
import Derived.Test.YtilhhkokdfajiaaGreatDoorI11
import Derived.Test.YtilhhkokdfajiaaGreatDoorI14
namespace Go.Mq.Check
open Go Go.RowKit Go.Mq Go.Mq.Tree Go.Mq.Sym
abbrev Look:=Option (Nat × Nat)
structure Env where
 imports:List (List UInt8)
 seen:List UInt8→Option (List Sy)
 locals:List (List UInt8)
 vars:List Glob
 procs:List Proc
inductive Got where
 | is (s:Sy)
 | bad (e p:Nat)
def Env.find (c:Env) (p:Nat) (m n:List UInt8):Got:=
 if m≠[] then
  if m∉c.imports then .bad 5 p
  else match findS ((c.seen m).getD []) n with
   | none=>.bad 7 p
   | some k=>.is (((c.seen m).getD []).getD k Sy.none)
 else if n∈c.locals then .is ⟨n,0,-1⟩
 else match c.vars.find? fun g=>g.name == n with
  | some g=>.is ⟨n,g.len,-1⟩
  | none=>match c.procs.find? fun x=>x.name == n with
   | some x=>.is ⟨n,0,x.params.length⟩
   | none=>.bad 7 p
def argsN:E→Nat
 | .nil=>0
 | .cons _ r=>argsN r + 1
 | _=>1
def nameL (c:Env) (p:Nat) (m n:List UInt8) (f:Sy→Look):Look:=match c.find p m n with
 | .bad e q=>some (e,q)
 | .is s=>f s
def exprL (c:Env):E→Look
 | .num _ _=>none
 | .var p m n=>nameL c p m n fun s=>if 0≤s.args∨0 < s.len then some (1,p) else none
 | .item p m n i=>(nameL c p m n fun s=>if 0≤s.args∨¬ 0 < s.len then some (1,p) else none).or (exprL c i)
 | .un _ _ x=>exprL c x
 | .bin _ _ x y=>(exprL c x).or (exprL c y)
 | .app p m n l=>(nameL c p m n fun s=>if ¬ 0≤s.args then some (1,p) else if (argsN l:Int)≠s.args then some (2,p) else none).or (exprL c l)
 | .nil=>none
 | .cons x r=>(exprL c x).or (exprL c r)
def bodyL (c:Env):S→Look
 | .nil=>none
 | .set p n none v r=>((exprL c (.var p [] n)).or (exprL c v)).or (bodyL c r)
 | .set p n (some i) v r=>((exprL c (.item p [] n i)).or (exprL c v)).or (bodyL c r)
 | .ifs _ v t e r=>(((exprL c v).or (bodyL c t)).or (bodyL c e)).or (bodyL c r)
 | .whil _ v t r=>((exprL c v).or (bodyL c t)).or (bodyL c r)
 | .ret _ v r=>(exprL c v).or (bodyL c r)
 | .wri _ v r=>(exprL c v).or (bodyL c r)
 | .call _ v r=>(exprL c v).or (bodyL c r)
def onceL:List (List UInt8)→List (List UInt8 × Nat)→Look
 | _,[]=>none
 | had,(n,p) :: r=>if n∈had then some (9,p) else onceL (n :: had) r
def importsL (own:List UInt8) (seen:List UInt8→Option (List Sy)):List (List UInt8)→List (List UInt8)→Option Nat
 | _,[]=>none
 | had,n :: r=>if n=own∨n∈had then some 10 else if (seen n).isNone then some 8 else importsL own seen (had ++ [n]) r
def procL (m:Mod) (seen:List UInt8→Option (List Sy)) (x:Proc):Look:=
 (onceL [] ((x.params ++ x.vars).map fun n=>(n,x.pos))).or (bodyL ⟨m.imports,seen,x.params ++ x.vars,m.vars,m.procs⟩ x.body)
def procsL (m:Mod) (seen:List UInt8→Option (List Sy)):List Proc→Look
 | []=>none
 | x :: r=>(procL m seen x).or (procsL m seen r)
inductive Out where
 | fine
 | plain (e:Nat)
 | at_ (e p:Nat)
def Out.of:Look→Out
 | none=>.fine
 | some (e,p)=>.at_ e p
def check (m:Mod) (seen:List UInt8→Option (List Sy)):Out:=match importsL m.name seen [] m.imports with
 | some e=>.plain e
 | none=>.of (((onceL [] (m.vars.map (fun g=>(g.name,g.pos)) ++ m.procs.map fun x=>(x.name,x.pos))).or (procsL m seen m.procs)).or (bodyL ⟨m.imports,seen,[],m.vars,m.procs⟩ m.body))
end Go.Mq.Check
namespace Go.Mq.Check
open Go Go.RowKit Go.Mq Go.Mq.Tree Go.Mq.Sym Go.MapKept
def MapIs (w:World) (b:Nat) (es:List (List UInt8 × Value)):Prop:=∃ arr clock,w.heap[b]?=some (.map arr clock)∧arr.toList.map (fun e=>(e.key,e.val))=es.map fun p=>(str p.1,p.2)
def getM:List (List UInt8 × Value)→List UInt8→Option Value
 | [],_=>none
 | (k,u) :: r,n=>if k=n then some u else getM r n
def putM:List (List UInt8 × Value)→List UInt8→Value→List (List UInt8 × Value)
 | [],n,v=>[(n,v)]
 | (k,u) :: r,n,v=>if k=n then (k,v) :: r else (k,u) :: putM r n v
def idxM:List (List UInt8 × Value)→List UInt8→Nat→Option (Nat × Value)
 | [],_,_=>none
 | (k,u) :: r,n,i=>if k=n then some (i,u) else idxM r n (i + 1)
theorem getM_put : ∀ (es:List (List UInt8 × Value)) (n:List UInt8) (v:Value) (x:List UInt8),getM (putM es n v) x=if n=x then some v else getM es x
 | [],n,v,x=>rfl
 | (k,u) :: r,n,v,x=>by
  rw [putM]
  by_cases hk : k=n
  ·subst hk
   rw [if_pos rfl,getM,getM]
   split <;> rfl
  ·rw [if_neg hk,getM,getM,getM_put r]
   by_cases hx : k=x
   ·subst hx; rw [if_pos rfl,if_pos rfl,if_neg (Ne.symm hk)]
   ·rw [if_neg hx,if_neg hx]
theorem idxM_get : ∀ (es:List (List UInt8 × Value)) (n:List UInt8) (i:Nat),(idxM es n i).map (·.2)=getM es n
 | [],_,_=>rfl
 | (k,u) :: r,n,i=>by
  rw [idxM,getM]
  split
  ·rfl
  ·exact idxM_get r n (i + 1)
theorem findNow_is {n:List UInt8} : ∀ {l:List MapEntry} {es:List (List UInt8 × Value)} {i:Nat},l.map (fun e=>(e.key,e.val))=es.map (fun p=>(str p.1,p.2))→Instr.findNow .string (str n) l i=some (idxM es n i)
 | [],[],i,_=>rfl
 | [],_ :: _,_,h=>by simp at h
 | _ :: _,[],_,h=>by simp at h
 | e :: l,(k,u) :: es,i,h=>by
  simp only [List.map_cons,List.cons.injEq,Prod.mk.injEq] at h
  obtain ⟨⟨h1,h2⟩,h3⟩:=h
  have hs:Instr.sameNow .string (str n) e.key=some (n == k):=by
   rw [h1]
   show some (bs n == bs k)=_
   rw [bs_beq]
  rw [Instr.findNow,hs,idxM]
  by_cases hk : k=n
  ·subst hk; simp [h2]
  ·have : (n == k)=false:=by simpa using fun h=>hk h.symm
   rw [this,if_neg hk]; exact findNow_is h3
theorem idxM_none : ∀ {es:List (List UInt8 × Value)} {n:List UInt8} {i:Nat} {v:Value},idxM es n i=none→putM es n v=es ++ [(n,v)]
 | [],_,_,_,_=>rfl
 | (k,u) :: r,n,i,v,h=>by
  rw [idxM] at h
  split at h
  ·cases h
  ·next hk=>rw [putM,if_neg hk,idxM_none h]; rfl
theorem idxM_some : ∀ {es:List (List UInt8 × Value)} {n:List UInt8} {i j:Nat} {u v:Value},idxM es n i=some (j,u)→i≤j∧es[j - i]?=some (n,u)∧putM es n v=es.modify (j - i) fun p=>(p.1,v)
 | [],_,_,_,_,_,h=>by cases h
 | (k,u) :: r,n,i,j,u',v,h=>by
  rw [idxM] at h
  split at h
  ·next hk=>cases h; subst hk; simp [putM]
  ·next hk=>
   obtain ⟨h1,h2,h3⟩:=idxM_some (v:=v) h
   obtain ⟨d,rfl⟩ : ∃ d,j=i + 1 + d:=⟨j - (i + 1),by omega⟩
   rw [show i + 1 + d - (i + 1)=d by omega] at h2 h3
   rw [show i + 1 + d - i=d + 1 by omega,putM,if_neg hk,h3]
   exact ⟨by omega,by simpa using h2,by simp⟩
theorem MapIs.kept {S:List Nat} {w w':World} {b:Nat} {es:List (List UInt8 × Value)} (h:MapIs w b es) (hc:Chg S w w') (hn : b∉S):MapIs w' b es:=by
 obtain ⟨arr,clock,hb,he⟩:=h
 exact ⟨arr,clock,by rw [hc.block b (Array.getElem?_eq_some_iff.1 hb).1 hn]; exact hb,he⟩
theorem MapIs.lt {w:World} {b:Nat} {es:List (List UInt8 × Value)} (h:MapIs w b es) : b < w.heap.size:=by
 obtain ⟨arr,clock,hb,he⟩:=h
 exact (Array.getElem?_eq_some_iff.1 hb).1
theorem MapIs.made (w:World):MapIs (w.alloc (.map #[] 0)) w.heap.size []:=⟨#[],0,heap_alloc_new w _,rfl⟩
section
variable {P:Program} {T K E:TypeId} {w:World} {b:Nat} {es:List (List UInt8 × Value)} {z:Value}
theorem run_getM (hT:P.underlying T=some (.map K E)) (hK:P.underlying K=some .string) (hz : (zeroValue E).run P w = .ok z w) (h:MapIs w b es) (n:List UInt8) :
  (Instr.lookup T (.map (some b)) (str n) false).run P w = .ok ((getM es n).getD z) w:=by
 obtain ⟨arr,clock,hb,he⟩:=h
 have hf:=findNow_is (n:=n) (i:=0) he
 rw [← idxM_get es n 0]
 cases hi : idxM es n 0 with
 | none=>rw [hi] at hf; simp [Instr.lookup,run_underlying hT,Go.MapKept.run_getObj_map hb,Go.MapKept.run_checkKey (d:=.string) (k:=str n) hK trivial,Go.MapKept.run_findKey hK hf,hz,Result.andThen]
 | some p=>obtain ⟨i,u⟩:=p; rw [hi] at hf; simp [Instr.lookup,run_underlying hT,Go.MapKept.run_getObj_map hb,Go.MapKept.run_checkKey (d:=.string) (k:=str n) hK trivial,Go.MapKept.run_findKey hK hf,Result.andThen]
theorem run_getMok (hT:P.underlying T=some (.map K E)) (hK:P.underlying K=some .string) (hz : (zeroValue E).run P w = .ok z w) (h:MapIs w b es) (n:List UInt8) :
  (Instr.lookup T (.map (some b)) (str n) true).run P w = .ok (.tuple #[(getM es n).getD z,.bool (getM es n).isSome]) w:=by
 obtain ⟨arr,clock,hb,he⟩:=h
 have hf:=findNow_is (n:=n) (i:=0) he
 rw [← idxM_get es n 0]
 cases hi : idxM es n 0 with
 | none=>rw [hi] at hf; simp [Instr.lookup,run_underlying hT,Go.MapKept.run_getObj_map hb,Go.MapKept.run_checkKey (d:=.string) (k:=str n) hK trivial,Go.MapKept.run_findKey hK hf,hz,Result.andThen]
 | some p=>obtain ⟨i,u⟩:=p; rw [hi] at hf; simp [Instr.lookup,run_underlying hT,Go.MapKept.run_getObj_map hb,Go.MapKept.run_checkKey (d:=.string) (k:=str n) hK trivial,Go.MapKept.run_findKey hK hf,Result.andThen]
theorem run_getNok (hT:P.underlying T=some (.map K E)) (hK:P.underlying K=some .string) (hz : (zeroValue E).run P w = .ok z w) (n:List UInt8) (ok:Bool) :
  (Instr.lookup T (.map none) (str n) ok).run P w = .ok (if ok then .tuple #[z,.bool false] else z) w:=by
 have hf:Instr.findNow .string (str n) [] 0=some none:=rfl
 cases ok <;> simp [Instr.lookup,run_underlying hT,Go.MapKept.run_checkKey (d:=.string) (k:=str n) hK trivial,Go.MapKept.run_findKey hK hf,hz,Result.andThen]
theorem run_putM (hT:P.underlying T=some (.map K E)) (hK:P.underlying K=some .string) (h:MapIs w b es) (n:List UInt8) (v:Value) :
  ∃ w',(Instr.mapUpdate T (.map (some b)) (str n) v).run P w = .ok () w'∧MapIs w' b (putM es n v)∧Chg [b] w w':=by
 obtain ⟨arr,clock,hb,he⟩:=h
 have hlt:=(Array.getElem?_eq_some_iff.1 hb).1
 have hf:=findNow_is (n:=n) (i:=0) he
 have hck : ∀ o:Obj,Chg [b] w { w with heap:=w.heap.setIfInBounds b o }:=fun o=>⟨rfl,rfl,rfl,by simp,fun k _ hk=>by
  show (w.heap.setIfInBounds b _)[k]?=_
  rw [Array.getElem?_setIfInBounds_ne (fun e=>hk (by simp [e]))]⟩
 cases hi : idxM es n 0 with
 | none=>
  rw [hi] at hf
  refine ⟨{ w with heap:=w.heap.setIfInBounds b (.map (arr.push { key:=str n,val:=v,born:=clock }) (clock + 1)) },by simp [Instr.mapUpdate,run_underlying hT,Go.MapKept.run_getObj_map hb,Go.MapKept.run_checkKey (d:=.string) (k:=str n) hK trivial,Go.MapKept.run_findKey hK hf,Go.MapKept.run_setObj_map _ hb,Result.andThen],⟨_,_,by simp [hlt]; exact ⟨rfl,rfl⟩,?_⟩,hck _⟩
  rw [idxM_none hi]
  simp [he]
 | some p=>
  obtain ⟨j,u⟩:=p
  rw [hi] at hf
  obtain ⟨_,h2,h3⟩:=idxM_some (v:=v) hi
  rw [Nat.sub_zero] at h2 h3
  have hj : ∃ e,arr[j]?=some e∧e.key=str n:=by
   have:=congrArg (fun l=>l[j]?) he
   simp only [List.getElem?_map,h2,Option.map_some] at this
   cases ha : arr.toList[j]? with
   | none=>rw [ha] at this; simp at this
   | some e=>rw [ha] at this; simp at this; exact ⟨e,by simpa using ha,this.1⟩
  obtain ⟨e,hj,hk⟩:=hj
  refine ⟨{ w with heap:=w.heap.setIfInBounds b (.map (arr.modify j fun e=>{ e with key:=str n,val:=v }) clock) },by simp [Instr.mapUpdate,run_underlying hT,Go.MapKept.run_getObj_map hb,Go.MapKept.run_checkKey (d:=.string) (k:=str n) hK trivial,Go.MapKept.run_findKey hK hf,hj,hk,Go.MapKept.run_keyThatStays (d:=.string) (k:=str n) trivial,Go.MapKept.run_setObj_map _ hb,Result.andThen],⟨_,_,by simp [hlt]; exact ⟨rfl,rfl⟩,?_⟩,hck _⟩
  rw [h3]
  apply List.ext_getElem?
  intro i
  have hi':=congrArg (fun l=>l[i]?) he
  simp only [List.getElem?_map] at hi'
  simp only [List.getElem?_map,Array.toList_modify,List.getElem?_modify]
  by_cases hij : j=i
  ·subst hij
   rw [h2]
   have : arr.toList[j]?=some e:=by simpa using hj
   rw [this]
   simp
  ·simp only [if_neg hij]
   cases ha : arr.toList[i]? <;> cases hb' : es[i]? <;> simp_all
end
def HadIs (w:World) (b:Nat) (had:List (List UInt8)):Prop:=∃ es,MapIs w b es ∧ ∀ n,getM es n=if n∈had then some (.bool true) else none
theorem HadIs.kept {S:List Nat} {w w':World} {b:Nat} {had:List (List UInt8)} (h:HadIs w b had) (hc:Chg S w w') (hn : b∉S):HadIs w' b had:=by
 obtain ⟨es,h1,h2⟩:=h
 exact ⟨es,h1.kept hc hn,h2⟩
theorem HadIs.made (w:World):HadIs (w.alloc (.map #[] 0)) w.heap.size []:=⟨[],MapIs.made w,fun n=>by simp [getM]⟩
def SeenAt (w:World) (F:Nat→Prop) (seen:List UInt8→Option (List Sy)) (v:Value):Prop:=
 (v = .map none ∧ ∀ n,seen n=none) ∨ ∃ b es,v = .map (some b)∧F b∧MapIs w b es ∧ ∀ n,match seen n with
  | none=>getM es n=none
  | some l=>l.length≤1000 ∧ ∃ u,getM es n=some u∧SymsAt w F l u
theorem SeenAt.kept {S:List Nat} {w w':World} {F:Nat→Prop} {seen:List UInt8→Option (List Sy)} {v:Value} (h:SeenAt w F seen v) (hc:Chg S w w') (hS : ∀ x∈S,¬ F x):SeenAt w' F seen v:=by
 rcases h with h | ⟨b,es,h1,h2,h3,h4⟩
 ·exact .inl h
 ·refine .inr ⟨b,es,h1,h2,h3.kept hc fun hm=>hS _ hm h2,fun n=>?_⟩
  have:=h4 n
  cases hs : seen n with
  | none=>rw [hs] at this; exact this
  | some l=>
   rw [hs] at this
   obtain ⟨h5,u,h6,h7⟩:=this
   exact ⟨h5,u,h6,h7.kept hc hS⟩
theorem SeenAt.mono {w:World} {F G:Nat→Prop} {seen:List UInt8→Option (List Sy)} {v:Value} (h:SeenAt w F seen v) (hF : ∀ x,F x→G x):SeenAt w G seen v:=by
 rcases h with h | ⟨b,es,h1,h2,h3,h4⟩
 ·exact .inl h
 ·refine .inr ⟨b,es,h1,hF _ h2,h3,fun n=>?_⟩
  have:=h4 n
  cases hs : seen n with
  | none=>rw [hs] at this; exact this
  | some l=>
   rw [hs] at this
   obtain ⟨h5,u,h6,h7⟩:=this
   exact ⟨h5,u,h6,h7.mono hF⟩
structure EnvAt (w:World) (F:Nat→Prop) (c:Env) (bc:Nat):Prop where
 own:F bc
 fewi : c.imports.length≤1000
 fewl : c.locals.length≤1000
 fewv : c.vars.length≤1000
 fewp : c.procs.length≤1000
 at_ : ∃ nm vi vv vp vb vm vl,Blk w bc #[str nm,vi,vv,vp,vb,vm,vl] 77∧NamesAt w F c.imports vi∧GlobsAt w F c.vars vv∧ProcsL w F c.procs vp∧SeenAt w F c.seen vm∧NamesAt w F c.locals vl
theorem EnvAt.kept {S:List Nat} {w w':World} {F:Nat→Prop} {c:Env} {bc:Nat} (h:EnvAt w F c bc) (hc:Chg S w w') (hS : ∀ x∈S,¬ F x):EnvAt w' F c bc:=by
 obtain ⟨nm,vi,vv,vp,vb,vm,vl,h1,h2,h3,h4,h5,h6⟩:=h.at_
 exact ⟨h.own,h.fewi,h.fewl,h.fewv,h.fewp,nm,vi,vv,vp,vb,vm,vl,h1.kept hc fun hm=>hS _ hm h.own,h2.kept hc hS,h3.kept hc hS,h4.kept hc hS,h5.kept hc hS,h6.kept hc hS⟩
abbrev thrown (b:Nat):Ending:=.panicked [{ v:=.iface 65 (.agg #[.iface 94 (ptr b)]),recovered:=false }]
def Looked (S:List Nat) (w:World) (r:Look) (e:Ending) (w':World):Prop:=Chg S w w'∧match r with
 | none=>e = .returned (.tuple #[])
 | some (en,p)=>∃ b,e=thrown b∧w.heap.size≤b∧Blk w' b #[.int .i64 en,.int .i64 p] 96
theorem Looked.after {S:List Nat} {w w1 w':World} {r:Look} {e:Ending} (h:Looked S w1 r e w') (hc:Chg S w w1):Looked S w r e w':=by
 refine ⟨hc.then h.1,?_⟩
 have:=h.2
 cases r with
 | none=>exact this
 | some x=>
  obtain ⟨b,h1,h2,h3⟩:=this
  have:=hc.size
  exact ⟨b,h1,by omega,h3⟩
end Go.Mq.Check
namespace Go.Mq.Check
open Go Go.RowKit Go.Mq Go.Mq.Tree Go.Mq.Sym
theorem getD_had {es:List (List UInt8 × Value)} {had:List (List UInt8)} {n:List UInt8} (h : ∀ n,getM es n=if n∈had then some (.bool true) else none) : (getM es n).getD (.bool false) = .bool (decide (n∈had)):=by
 rw [h]
 by_cases hn : n∈had <;> simp [hn]
end Go.Mq.Check
namespace Go.Proofs.YtilhhkokdfajiaaGreatDoor
open Go Go.RowKit Go.Mq Go.Mq.Tree Go.Mq.Sym Go.Mq.Check
set_option maxRecDepth 100000
set_option maxHeartbeats 2000000
theorem zero_bool (w:World) : (zeroValue 4).run Tryz.prog w = .ok (.bool false) w:=by kernel_rfl
theorem zero_syms (w:World) : (zeroValue 38).run Tryz.prog w = .ok nils w:=by kernel_rfl
theorem cfail_any (en p:Nat) (w:World):Calls Tryz.prog 46 #[.int .i64 en,.int .i64 p] w (Looked [] w (some (en,p))):=by
 go_enter Tryz.func46,Tryz.ntmps46
 go_wp2_with fail
 exact ⟨rfl,(Chg.refl _ _).alloc _,w.heap.size,rfl,Nat.le_refl _,Blk.new _ _ _⟩
theorem once_any (had:List (List UInt8)) (n:List UInt8) (p b:Nat) (w:World) (h:HadIs w b had) :
  Calls Tryz.prog 24 #[.map (some b),str n,.int .i64 p] w (fun e w'=>if n∈had then Looked [b] w (some (9,p)) e w' else e = .returned (.tuple #[])∧Chg [b] w w'∧HadIs w' b (n :: had)):=by
 obtain ⟨es,hm,hes⟩:=h
 have hl:=run_getM (P:=Tryz.prog) Tryz.underlying68 Tryz.underlying9 (zero_bool w) hm n
 rw [getD_had hes] at hl
 by_cases hn : n∈had
 ·rw [show decide (n∈had)=true by simpa using hn] at hl
  simp only [if_pos hn]
  have HF:=Lib.hid (cfail_any 9 p w)
  clear hm hes hn
  go_enter Tryz.func24,Tryz.ntmps24
  go_wp2_with fail
  refine HF.out.mono ?_
  rintro _ w1 ⟨hc,b1,rfl,hlt,hb⟩
  have HC:=Lib.hid hc; have HB:=Lib.hid hb
  clear hc hb
  go_wp2_with fail
  exact ⟨rfl,HC.out.mono (by simp),b1,rfl,hlt,HB.out⟩
 ·rw [show decide (n∈had)=false by simpa using hn] at hl
  simp only [if_neg hn]
  obtain ⟨w',hu,hm',hc'⟩:=run_putM (P:=Tryz.prog) Tryz.underlying68 Tryz.underlying9 hm n (.bool true)
  have HM:=Lib.hid (show HadIs w' b (n :: had) from ⟨_,hm',fun x=>by
   rw [getM_put,hes]
   by_cases hx : n=x
   ·subst hx; simp
   ·rw [if_neg hx]; simp [Ne.symm hx]⟩)
  have HC:=Lib.hid hc'
  clear hm hes hn hm' hc'
  go_enter Tryz.func24,Tryz.ntmps24
  go_wp2_with fail
  refine bodyPost_end (results_none rfl _ _ _) rfl ?_
  exact ⟨rfl,HC.out,HM.out⟩
theorem indexs_in (l:List (List UInt8)) (hl : l.length≤1000) (n:List UInt8) (F:Nat→Prop) (v:Value) (w:World) (h:NamesAt w F l v) :
  Calls Tryz.prog 31 #[v,str n] w (fun e w'=>∃ r:Int,e = .returned (.int .i64 r) ∧ -1≤r∧r≤1000∧decide (0≤r)=decide (n∈l)∧w'=w):=by
 obtain ⟨a,c,rfl,hac,hrow⟩:=h
 have HROW:=Lib.hid hrow
 clear hrow
 go_enter Tryz.func31,Tryz.ntmps31
 go_wp2_with fail
 go_loopw [5,8] (fun _ i wr=>∃ k:Nat,i = .int .i64 k∧k≤l.length∧w=wr ∧ ∀ (i:Nat) (x:List UInt8),i < k→l[i]?=some x→x≠n) (fun _ i _=>l.length - (intOf i).toNat)
 case atStart=>exact ⟨0,rfl,Nat.zero_le _,rfl,fun i x hi=>by omega⟩
 case round=>
  obtain ⟨k,rfl,hk,rfl,hno⟩:=hrel
  have HNO:=Lib.hid hno
  clear hno
  by_cases hlt : k < l.length
  ·obtain ⟨x,hs⟩ : ∃ x,l[k]?=some x:=⟨l[k],List.getElem?_eq_getElem hlt⟩
   obtain ⟨b,o,rfl,d0⟩:=names_cell HROW.out hs
   have HS:=Lib.hid hs
   clear hs
   cases hq : (n == x) with
   | true=>
    have HIN:=Lib.hid (show n∈l by
     have : n=x:=by simpa using hq
     rw [this]; exact List.mem_of_getElem? HS.out)
    go_wp2_with fail
    go_ret
    exact ⟨k,rfl,by omega,by omega,by simp [HIN.out],rfl⟩
   | false=>
    have HN:=Lib.hid (show x≠n by intro h; subst h; simp at hq)
    go_wp2_with fail
    refine ⟨⟨k + 1,by go_num,by omega,by first | rfl | trivial,fun i y hi hx=>?_⟩,by simp [intOf]; omega⟩
    by_cases he : i < k
    ·exact HNO.out i y he hx
    ·have : i=k:=by omega
     subst this
     rw [HS.out] at hx
     cases hx
     exact HN.out
  ·have hall : n∉l:=fun hn=>by
    obtain ⟨i,hi⟩:=List.getElem?_of_mem hn
    exact HNO.out i n (by have:=(List.getElem?_eq_some_iff.1 hi).1; omega) hi rfl
   have HA:=Lib.hid hall
   clear hall
   go_wp2_with fail
   go_ret
   exact ⟨-1,rfl,by omega,by omega,by simp [HA.out],rfl⟩
theorem contains_in (l:List (List UInt8)) (hl : l.length≤1000) (n:List UInt8) (F:Nat→Prop) (v:Value) (w:World) (h:NamesAt w F l v) :
  Calls Tryz.prog 13 #[v,str n] w (fun e w'=>e = .returned (.bool (decide (n∈l)))∧w'=w):=by
 have HI:=Lib.hid (indexs_in l hl n F v w h)
 clear h
 go_enter Tryz.func13,Tryz.ntmps13
 go_wp2_with fail
 refine HI.out.mono ?_; rintro _ w1 ⟨r,rfl,h0,h1,hq,hw⟩
 have HQ:=Lib.hid hq; have HW:=Lib.hid hw
 clear hq hw
 go_wp2_with fail
 go_ret
 exact ⟨by rw [← HQ.out]; simp,HW.out⟩
theorem isg_any (g:Glob) (n:List UInt8) (be b0:Nat) (c0 c1 c2 c3 c5 c6 c7 c8:Value) (w:World) (hx : w.cell? ⟨b0,0,none⟩=some (ptr be)) (hb:Blk w be #[c0,c1,c2,c3,str n,c5,c6,c7,c8] 83) :
  Calls Tryz.prog 103 #[.agg #[str g.name,.int .i64 g.pos,.int .i64 g.len,.bool g.seen],ptr b0] w (fun e w'=>e = .returned (.bool (g.name == n))∧Chg [] w w'):=by
 have hx':=((Chg.refl [] w).alloc (.cells #[str g.name,.int .i64 g.pos,.int .i64 g.len,.bool g.seen] 70)).cellSome hx (by simp)
 have d4:=((Chg.refl [] w).alloc (.cells #[str g.name,.int .i64 g.pos,.int .i64 g.len,.bool g.seen] 70)).cellSome (hb.cell 4 _ rfl) (by simp)
 have n0 : b0≠w.heap.size:=by have:=lt_of_cell hx; simp at this; omega
 have n1 : be≠w.heap.size:=by have:=hb.lt; omega
 have z:=Blk.new w #[str g.name,.int .i64 g.pos,.int .i64 g.len,.bool g.seen] 70
 have z0:=z.cell 0 _ rfl
 clear hx hb z
 go_enter Tryz.func103,Tryz.ntmps103
 go_wp2_with fail
 go_region
 all_goals (try go_wp2_with fail)
 all_goals go_ret
 all_goals exact ⟨rfl,((Chg.refl _ _).alloc _).drew⟩
end Go.Proofs.YtilhhkokdfajiaaGreatDoor
namespace Go.Mq.Check
open Go Go.RowKit Go.Mq Go.Mq.Tree Go.Mq.Sym
theorem split_at {α:Type} {l:List α} {k:Nat} {x : α} (h : l[k]?=some x) : l=l.take k ++ x :: l.drop (k + 1)∧(l.take k).length=k:=by
 obtain ⟨hk,he⟩:=List.getElem?_eq_some_iff.1 h
 refine ⟨?_,by simp; omega⟩
 rw [← he,← List.drop_eq_getElem_cons hk,List.take_append_drop]
theorem flat4 : ∀ l:List Glob,(l.flatMap Glob.cells).length=l.length * 4
 | []=>rfl
 | x :: r=>by rw [List.flatMap_cons,List.length_append,flat4 r]; simp [Glob.cells]; omega
theorem glob_cells {w:World} {F:Nat→Prop} {a:Option Addr} {l:List Glob} (h:Row w F a (l.flatMap Glob.cells)) {k:Nat} {g:Glob} (hk : l[k]?=some g) :
  ∃ bb off,a=some ⟨bb,off,none⟩∧w.cell? ⟨bb,off + k * 4,none⟩=some (str g.name)∧w.cell? ⟨bb,off + k * 4 + 1,none⟩=some (.int .i64 g.pos)∧w.cell? ⟨bb,off + k * 4 + 2,none⟩=some (.int .i64 g.len)∧w.cell? ⟨bb,off + k * 4 + 3,none⟩=some (.bool g.seen):=by
 obtain ⟨h1,h2⟩:=split_at hk
 rw [h1,List.flatMap_append,List.flatMap_cons] at h
 exact cells4S (cs':=(l.drop (k + 1)).flatMap Glob.cells) h (by rw [flat4,h2])
theorem prsL_at : ∀ {l:List Proc} {cs:List Value} {k:Nat} {x:Proc},PrsL l cs→l[k]?=some x → ∃ cs1 c cs',cs=cs1 ++ (c ++ cs')∧cs1.length=k * 6∧PrL x c
 | [],_,_,_,_,hk=>by simp at hk
 | y :: r,_,0,x,h,hk=>by
  obtain ⟨c1,c2,rfl,h1,h2⟩:=h
  simp at hk; subst hk
  exact ⟨[],c1,c2,rfl,rfl,h1⟩
 | y :: r,_,k + 1,x,h,hk=>by
  obtain ⟨c1,c2,rfl,⟨_,_,_,_,_,_,_,_,_,rfl⟩,h2⟩:=h
  obtain ⟨cs1,c,cs',rfl,hl,hp⟩:=prsL_at h2 (by simpa using hk)
  exact ⟨_ ++ cs1,c,cs',by rw [List.append_assoc],by simp [hl]; omega,hp⟩
theorem proc_cells {w:World} {F:Nat→Prop} {l:List Proc} {v:Value} (h:ProcsL w F l v) {k:Nat} {x:Proc} (hk : l[k]?=some x) :
  ∃ (bb off c:Nat) (pos:Int) (a1:Option Addr) (k1:Nat) (a2:Option Addr) (n2 k2:Nat) (a3:Option Addr) (n3 k3:Nat),v = .slice (some ⟨bb,off,none⟩) l.length c∧l.length≤c∧w.cell? ⟨bb,off + k * 6,none⟩=some (str x.name)∧w.cell? ⟨bb,off + k * 6 + 1,none⟩=some (.int .i64 pos) ∧
   w.cell? ⟨bb,off + k * 6 + 2,none⟩=some (.bool x.seen)∧w.cell? ⟨bb,off + k * 6 + 3,none⟩=some (.slice a1 x.params.length k1)∧w.cell? ⟨bb,off + k * 6 + 4,none⟩=some (.slice a2 n2 k2)∧w.cell? ⟨bb,off + k * 6 + 5,none⟩=some (.slice a3 n3 k3):=by
 obtain ⟨a,c,cs,rfl,hlc,hrow,hps⟩:=h
 obtain ⟨cs1,d,cs',rfl,hl,pos,a1,k1,a2,n2,k2,a3,n3,k3,rfl⟩:=prsL_at hps hk
 obtain ⟨bb,off,rfl,d0,d1,d2,d3,d4,d5⟩:=cells6S (cs':=cs') hrow hl
 exact ⟨bb,off,c,pos,a1,k1,a2,n2,k2,a3,n3,k3,rfl,hlc,d0,d1,d2,d3,d4,d5⟩
def At1 {α:Type} (l:List α) (f : α→Bool) (e:Ending):Prop:=match l.find? f with
 | none=>e = .returned (.int .i64 (-1))
 | some x=>∃ k:Nat,l[k]?=some x∧e = .returned (.int .i64 k)
def Sought {α:Type} (l:List α) (f : α→Bool) (k:Nat):Prop:=(l.take k).find? f=none
section
variable {α:Type} {l:List α} {f : α→Bool} {k:Nat} {x : α} {e:Ending}
theorem Sought.zero:Sought l f 0:=rfl
theorem Sought.next (h:Sought l f k) (hk : l[k]?=some x) (hx : f x=false):Sought l f (k + 1):=by
 obtain ⟨hlt,rfl⟩:=List.getElem?_eq_some_iff.1 hk
 rw [Sought,List.take_succ_eq_append_getElem hlt,List.find?_append,h]
 simp [hx]
theorem Sought.here (h:Sought l f k) (hk : l[k]?=some x) (hx : f x=true):At1 l f (.returned (.int .i64 k)):=by
 have : l.find? f=some x:=by
  rw [(split_at hk).1,List.find?_append,h]
  simp [hx]
 rw [At1,this]
 exact ⟨k,hk,rfl⟩
theorem Sought.all (h:Sought l f k) (hk : ¬ k < l.length):At1 l f (.returned (.int .i64 (-1))):=by
 rw [Sought,List.take_of_length_le (Nat.le_of_not_lt hk)] at h
 rw [At1,h]
theorem At1.num (h:At1 l f e) : ∃ n:Int,e = .returned (.int .i64 n)∧decide (0≤n)=l.any f:=by
 rw [At1] at h
 cases hx : l.find? f with
 | none=>rw [hx] at h; exact ⟨-1,h,by simpa using hx⟩
 | some x=>
  rw [hx] at h
  obtain ⟨k,_,rfl⟩:=h
  exact ⟨k,rfl,((List.any_eq_true (l:=l)).2 ⟨x,List.mem_of_find?_eq_some hx,List.find?_some hx⟩).symm ▸ by simp⟩
end
def FoundAt (w:World) (g:Got) (e:Ending) (w':World):Prop:=match g with
 | .is s=>Chg [] w w'∧e = .returned (.agg #[str s.name,.int .i64 s.len,.int .i64 s.args])
 | .bad en p=>Looked [] w (some (en,p)) e w'
end Go.Mq.Check
namespace Go.Proofs.YtilhhkokdfajiaaGreatDoor
open Go Go.RowKit Go.Mq Go.Mq.Tree Go.Mq.Sym Go.Mq.Check
set_option maxRecDepth 100000
set_option maxHeartbeats 2000000
theorem isp_any (x:Proc) (n:List UInt8) (pos:Int) (a1:Option Addr) (k1:Nat) (a2:Option Addr) (n2 k2:Nat) (a3:Option Addr) (n3 k3:Nat) (be b0:Nat) (c0 c1 c2 c3 c5 c6 c7 c8:Value) (w:World) (hx : w.cell? ⟨b0,0,none⟩=some (ptr be)) (hb:Blk w be #[c0,c1,c2,c3,str n,c5,c6,c7,c8] 83) :
  Calls Tryz.prog 105 #[.agg #[str x.name,.int .i64 pos,.bool x.seen,.slice a1 x.params.length k1,.slice a2 n2 k2,.slice a3 n3 k3],ptr b0] w (fun e w'=>e = .returned (.bool (x.name == n))∧Chg [] w w'):=by
 have hx':=((Chg.refl [] w).alloc (.cells #[str x.name,.int .i64 pos,.bool x.seen,.slice a1 x.params.length k1,.slice a2 n2 k2,.slice a3 n3 k3] 73)).cellSome hx (by simp)
 have d4:=((Chg.refl [] w).alloc (.cells #[str x.name,.int .i64 pos,.bool x.seen,.slice a1 x.params.length k1,.slice a2 n2 k2,.slice a3 n3 k3] 73)).cellSome (hb.cell 4 _ rfl) (by simp)
 have n0 : b0≠w.heap.size:=by have:=lt_of_cell hx; simp at this; omega
 have n1 : be≠w.heap.size:=by have:=hb.lt; omega
 have z:=Blk.new w #[str x.name,.int .i64 pos,.bool x.seen,.slice a1 x.params.length k1,.slice a2 n2 k2,.slice a3 n3 k3] 73
 have z0:=z.cell 0 _ rfl
 clear hx hb z
 go_enter Tryz.func105,Tryz.ntmps105
 go_wp2_with fail
 go_region
 all_goals (try go_wp2_with fail)
 all_goals go_ret
 all_goals exact ⟨rfl,((Chg.refl _ _).alloc _).drew⟩
theorem index_glob (cs:Array Value) (fid:FuncId) (hF : ∀ (args:Array Value) (w:World),(callFunc fid args).run Tryz.prog w = .ok (.enter fid args) w) (l:List Glob) (hl : l.length≤1000) (f:Glob→Bool) (F:Nat→Prop) (v:Value) (w:World) (h:GlobsAt w F l v)
  (hf : ∀ x∈l,∀ w',Chg [] w w'→Calls Tryz.prog fid (#[(.agg #[str x.name,.int .i64 x.pos,.int .i64 x.len,.bool x.seen] : Value)] ++ cs) w' (fun e w''=>e = .returned (.bool (f x))∧Chg [] w' w'')) :
  Calls Tryz.prog 102 #[v,.func (.func fid) #[] cs] w (fun e w'=>At1 l f e∧Chg [] w w'):=by
 have HA:=Lib.hid h; have HF:=Lib.hid hf
 obtain ⟨a,c,rfl,hac,hrow⟩:=h
 clear hrow hf
 go_enter Tryz.func102,Tryz.ntmps102
 go_wp2_with fail
 go_loopw [5,8] (fun _ i wr=>∃ k:Nat,i = .int .i64 k∧k≤l.length∧Hid (Sought l f k∧Chg [] w wr)) (fun _ i _=>l.length - (intOf i).toNat)
 case atStart=>exact ⟨0,rfl,Nat.zero_le _,Lib.hid ⟨.zero,.refl _ _⟩⟩
 case round=>
  obtain ⟨k,rfl,hk,HS⟩:=hrel
  by_cases hlt : k < l.length
  rotate_left
  ·go_wp2_with fail
   go_ret
   exact ⟨HS.out.1.all hlt,HS.out.2⟩
  obtain ⟨x,hx⟩ : ∃ x,l[k]?=some x:=⟨l[k],List.getElem?_eq_getElem hlt⟩
  obtain ⟨_,_,hv,_,hrow⟩:=HA.out
  cases hv
  obtain ⟨bb,off,rfl,d0,d1,d2,d3⟩:=glob_cells (hrow.kept HS.out.2 (by simp)) hx
  clear hrow
  have HI:=Lib.hid (HF.out x (List.mem_of_getElem? hx) wr HS.out.2)
  have HX:=Lib.hid hx
  obtain ⟨b,hb⟩ : ∃ b,b=f x:=⟨_,rfl⟩
  rw [← hb] at HI
  have HB:=Lib.hid hb.symm
  clear hx hb
  go_wp2_with fail
  refine HI.out.mono ?_; rintro _ w2 ⟨rfl,hq⟩
  have HQ:=Lib.hid (HS.out.2.then hq)
  clear hq
  cases b
  all_goals go_wp2_with fail
  ·exact ⟨⟨k + 1,by go_num,by omega,Lib.hid ⟨HS.out.1.next HX.out HB.out,HQ.out⟩⟩,by simp [intOf]; omega⟩
  ·go_ret
   exact ⟨HS.out.1.here HX.out HB.out,HQ.out⟩
theorem index_proc (cs:Array Value) (fid:FuncId) (hF : ∀ (args:Array Value) (w:World),(callFunc fid args).run Tryz.prog w = .ok (.enter fid args) w) (l:List Proc) (hl : l.length≤1000) (f:Proc→Bool) (F:Nat→Prop) (v:Value) (w:World) (h:ProcsL w F l v)
  (hf : ∀ x∈l,∀ (pos:Int) (a1:Option Addr) (k1:Nat) (a2:Option Addr) (n2 k2:Nat) (a3:Option Addr) (n3 k3:Nat),∀ w',Chg [] w w'→Calls Tryz.prog fid (#[(.agg #[str x.name,.int .i64 pos,.bool x.seen,.slice a1 x.params.length k1,.slice a2 n2 k2,.slice a3 n3 k3] : Value)] ++ cs) w' (fun e w''=>e = .returned (.bool (f x))∧Chg [] w' w'')) :
  Calls Tryz.prog 104 #[v,.func (.func fid) #[] cs] w (fun e w'=>At1 l f e∧Chg [] w w'):=by
 have HA:=Lib.hid h; have HF:=Lib.hid hf
 obtain ⟨a,c,ps,rfl,hac,hrow,hps⟩:=h
 clear hrow hps hf
 go_enter Tryz.func104,Tryz.ntmps104
 go_wp2_with fail
 go_loopw [5,8] (fun _ i wr=>∃ k:Nat,i = .int .i64 k∧k≤l.length∧Hid (Sought l f k∧Chg [] w wr)) (fun _ i _=>l.length - (intOf i).toNat)
 case atStart=>exact ⟨0,rfl,Nat.zero_le _,Lib.hid ⟨.zero,.refl _ _⟩⟩
 case round=>
  obtain ⟨k,rfl,hk,HS⟩:=hrel
  by_cases hlt : k < l.length
  rotate_left
  ·go_wp2_with fail
   go_ret
   exact ⟨HS.out.1.all hlt,HS.out.2⟩
  obtain ⟨x,hx⟩ : ∃ x,l[k]?=some x:=⟨l[k],List.getElem?_eq_getElem hlt⟩
  obtain ⟨bb,off,cc,pos,a1,k1,a2,n2,k2,a3,n3,k3,hv,_,d0,d1,d2,d3,d4,d5⟩:=proc_cells (ProcsL.kept HA.out HS.out.2 (by simp)) hx
  cases hv
  have HI:=Lib.hid (HF.out x (List.mem_of_getElem? hx) pos a1 k1 a2 n2 k2 a3 n3 k3 wr HS.out.2)
  have HX:=Lib.hid hx
  obtain ⟨b,hb⟩ : ∃ b,b=f x:=⟨_,rfl⟩
  rw [← hb] at HI
  have HB:=Lib.hid hb.symm
  clear hx hb
  go_wp2_with fail
  refine HI.out.mono ?_; rintro _ w2 ⟨rfl,hq⟩
  have HQ:=Lib.hid (HS.out.2.then hq)
  clear hq
  cases b
  all_goals go_wp2_with fail
  ·exact ⟨⟨k + 1,by go_num,by omega,Lib.hid ⟨HS.out.1.next HX.out HB.out,HQ.out⟩⟩,by simp [intOf]; omega⟩
  ·go_ret
   exact ⟨HS.out.1.here HX.out HB.out,HQ.out⟩
end Go.Proofs.YtilhhkokdfajiaaGreatDoor
namespace Go.Mq.Check
open Go Go.RowKit Go.Mq Go.Mq.Tree Go.Mq.Sym
theorem onceL_none : ∀ (l:List (List UInt8 × Nat)) (had:List (List UInt8)),onceL had l=none↔(l.map (·.1)).Nodup ∧ ∀ x∈l.map (·.1),x∉had
 | [],had=>by simp [onceL]
 | (n,p) :: r,had=>by
  rw [onceL]
  split
  ·next h=>simp; intro _ _ h2; exact absurd h h2
  ·next h=>
   rw [onceL_none r]
   simp only [List.map_cons,List.nodup_cons,List.mem_cons,forall_eq_or_imp,not_or]
   constructor
   ·rintro ⟨h1,h2⟩
    exact ⟨⟨fun hm=>(h2 n hm).1 rfl,h1⟩,h,fun x hx=>(h2 x hx).2⟩
   ·rintro ⟨⟨h1,h2⟩,_,h3⟩
    exact ⟨h2,fun x hx=>⟨fun he=>h1 (he ▸ hx),h3 x hx⟩⟩
theorem procsL_none (m:Mod) (seen:List UInt8→Option (List Sy)) : ∀ l,procsL m seen l=none ↔ ∀ x∈l,procL m seen x=none
 | []=>by simp [procsL]
 | x :: r=>by rw [procsL,Option.or_eq_none_iff,procsL_none m seen r]; simp
theorem importsL_some {own:List UInt8} {seen:List UInt8→Option (List Sy)} : ∀ (l had:List (List UInt8)),importsL own seen had l=none → ∀ n∈l,(seen n).isSome
 | [],_,_=>by simp
 | x :: r,had,h=>by
  rw [importsL] at h
  split at h
  ·cases h
  split at h
  ·cases h
  ·next h1 h2=>
   intro n hn
   rcases List.mem_cons.1 hn with rfl | hn
   ·cases hs : seen n with
    | none=>simp [hs] at h2
    | some _=>rfl
   ·exact importsL_some r _ h n hn
theorem out_fine {o:Look} : Out.of o = .fine↔o=none:=by
 cases o with
 | none=>simp [Out.of]
 | some x=>obtain ⟨e,p⟩:=x; simp [Out.of]
theorem check_fine (m:Mod) (seen:List UInt8→Option (List Sy)) : check m seen = .fine↔importsL m.name seen [] m.imports=none∧(m.vars.map (·.name) ++ m.procs.map (·.name)).Nodup∧(∀ x∈m.procs,procL m seen x=none)∧bodyL ⟨m.imports,seen,[],m.vars,m.procs⟩ m.body=none:=by
 rw [check]
 cases hi : importsL m.name seen [] m.imports with
 | some e=>simp
 | none=>
  simp only [out_fine,Option.or_eq_none_iff,onceL_none,procsL_none,true_and]
  simp [and_assoc,Function.comp_def]
end Go.Mq.Check
namespace Go.Mq.Check
open Go Go.RowKit Go.Mq Go.Mq.Tree Go.Mq.Sym
theorem getM_seen {w:World} {F:Nat→Prop} {seen:List UInt8→Option (List Sy)} {b:Nat} {es:List (List UInt8 × Value)} {n:List UInt8} (h : match seen n with
  | none=>getM es n=none
  | some l=>l.length≤1000 ∧ ∃ u,getM es n=some u∧SymsAt w F l u) : ((seen n).getD []).length≤1000∧SymsAt w F ((seen n).getD []) ((getM es n).getD nils):=by
 cases hs : seen n with
 | none=>
  rw [hs] at h
  simp only at h
  rw [h]
  exact ⟨by simp,none,0,rfl,Nat.le_refl _,Row.nil _ _ _,fun _=>rfl⟩
 | some l=>
  rw [hs] at h
  obtain ⟨h1,u,h2,h3⟩:=h
  rw [h2]
  exact ⟨h1,h3⟩
end Go.Mq.Check
namespace Go.Proofs.YtilhhkokdfajiaaGreatDoor
open Go Go.RowKit Go.Mq Go.Mq.Tree Go.Mq.Sym Go.Mq.Check
set_option maxRecDepth 100000
set_option maxHeartbeats 2000000
theorem look_seen {w:World} {F:Nat→Prop} {seen:List UInt8→Option (List Sy)} {v:Value} (h:SeenAt w F seen v) (n:List UInt8) : ∃ u,(∀ w',Chg [] w w'→(Instr.lookup 34 v (str n) false).run Tryz.prog w' = .ok u w') ∧
  (∀ w',Chg [] w w'→(Instr.lookup 34 v (str n) true).run Tryz.prog w' = .ok (.tuple #[u,.bool (seen n).isSome]) w')∧((seen n).getD []).length≤1000∧SymsAt w F ((seen n).getD []) u:=by
 rcases h with ⟨rfl,h⟩ | ⟨b,es,rfl,_,hm,hs⟩
 ·refine ⟨nils,fun w' _=>?_,fun w' _=>?_,by rw [h n]; simp,?_⟩
  ·exact run_getNok Tryz.underlying34 Tryz.underlying9 (zero_syms w') n false
  ·rw [h n]; exact run_getNok Tryz.underlying34 Tryz.underlying9 (zero_syms w') n true
  ·rw [h n]; exact ⟨none,0,rfl,Nat.le_refl _,Row.nil _ _ _,fun _=>rfl⟩
 ·have hn:=hs n
  have hi : (getM es n).isSome=(seen n).isSome:=by
   cases hsn : seen n with
   | none=>rw [hsn] at hn; simp only at hn; rw [hn] <;> rfl
   | some l=>rw [hsn] at hn; obtain ⟨_,u,hu,_⟩:=hn; rw [hu] <;> rfl
  obtain ⟨h1,h2⟩:=getM_seen (b:=b) hn
  refine ⟨_,fun w' hc=>run_getM Tryz.underlying34 Tryz.underlying9 (zero_syms w') (hm.kept hc (by simp)) n,fun w' hc=>?_,h1,h2⟩
  rw [← hi]
  exact run_getMok Tryz.underlying34 Tryz.underlying9 (zero_syms w') (hm.kept hc (by simp)) n
theorem cfind_any (c:Env) (bc be p:Nat) (m n:List UInt8) (c0 c2 c5 c6 c7 c8:Value) (F:Nat→Prop) (w:World) (hE:EnvAt w F c bc) (hx:Blk w be #[c0,.int .i64 p,c2,str m,str n,c5,c6,c7,c8] 83) :
  Calls Tryz.prog 88 #[ptr bc,ptr be] w (FoundAt w (c.find p m n)):=by
 have hmf : ∀ (fn:Fn) (first cap:Array Value) (w:World),(Instr.makeFunc fn first cap).run Tryz.prog w = .ok (.func fn first cap) w:=fun _ _ _ _=>rfl
 obtain ⟨w0,hw0⟩ : ∃ w0,(w.alloc (.cells #[ptr be] 80)).alloc (.cells #[str [],.int .i64 0,.int .i64 0] 41)=w0:=⟨_,rfl⟩
 have hs1 : (w.alloc (.cells #[ptr be] 80)).heap.size=w.heap.size + 1:=by simp
 have hb:Blk w0 w.heap.size #[ptr be] 80:=by rw [← hw0]; exact (Blk.new _ _ _).kept ((Chg.refl [] _).alloc _) (by simp)
 have hr:Blk w0 (w.heap.size + 1) #[str [],.int .i64 0,.int .i64 0] 41:=by rw [← hw0,← hs1]; exact Blk.new _ _ _
 have hc0:Chg [] w w0:=by rw [← hw0]; exact ((Chg.refl _ _).alloc _).alloc _
 have hx0:=hx.kept hc0 (by simp)
 obtain ⟨nm,vi,vv,vp,vb,vm,vl,hk,hni,hgv,hpv,hsv,hnl⟩:=(hE.kept hc0 (by simp)).at_
 have HI:=hE.fewi; have HLO:=hE.fewl; have HVS:=hE.fewv; have HPS:=hE.fewp
 have hn1 : be≠w.heap.size:=by have:=hx.lt; omega
 have HC:=Lib.hid hc0; have HX:=Lib.hid hx0; have HB:=Lib.hid hb
 have HNI:=Lib.hid hni; have HGV:=Lib.hid hgv; have HPV:=Lib.hid hpv; have HSV:=Lib.hid hsv; have HNL:=Lib.hid hnl
 have HR:=Lib.hid (fun w' (hc:Chg [] w0 w')=>hr.kept hc (by simp))
 have HM:=Lib.hid (fun w' (hc:Chg [] w0 w')=>(⟨hc.cellSome (hb.cell 0 _ rfl) (by simp),hc.cellSome (hx0.cell 1 _ rfl) (by simp),hc.cellSome (hx0.cell 3 _ rfl) (by simp),hc.cellSome (hx0.cell 4 _ rfl) (by simp),hc.cellSome (hk.cell 1 _ rfl) (by simp),hc.cellSome (hk.cell 2 _ rfl) (by simp),hc.cellSome (hk.cell 3 _ rfl) (by simp),hc.cellSome (hk.cell 5 _ rfl) (by simp),hc.cellSome (hk.cell 6 _ rfl) (by simp)⟩ :
  w'.cell? ⟨w.heap.size,0,none⟩=some (ptr be)∧w'.cell? ⟨be,1,none⟩=some (.int .i64 p)∧w'.cell? ⟨be,3,none⟩=some (str m)∧w'.cell? ⟨be,4,none⟩=some (str n)∧w'.cell? ⟨bc,1,none⟩=some vi∧w'.cell? ⟨bc,2,none⟩=some vv∧w'.cell? ⟨bc,3,none⟩=some vp∧w'.cell? ⟨bc,5,none⟩=some vm∧w'.cell? ⟨bc,6,none⟩=some vl))
 clear hc0 hr hx0 hb hk hni hgv hpv hsv hnl hE hx hs1
 have HC0:=Lib.hid (Chg.refl [] w0)
 obtain ⟨b0,x1,x3,x4,k1,k2,k3,k5,k6⟩:=HM.out _ HC0.out
 have HCT:=Lib.hid (show ∀ w',Chg [] w0 w'→Calls Tryz.prog 13 #[vl,str n] w' (fun e w''=>e = .returned (.bool (decide (n∈c.locals)))∧w''=w') from fun w' hc=>contains_in c.locals HLO n F vl w' (HNL.out.kept hc (by simp)))
 have HCM:=Lib.hid (show ∀ w',Chg [] w0 w'→Calls Tryz.prog 13 #[vi,str m] w' (fun e w''=>e = .returned (.bool (decide (m∈c.imports)))∧w''=w') from fun w' hc=>contains_in c.imports HI m F vi w' (HNI.out.kept hc (by simp)))
 have HIG:=Lib.hid (show ∀ w',Chg [] w0 w'→Calls Tryz.prog 102 #[vv,.func (.func 103) #[] #[ptr w.heap.size]] w' (fun e w''=>At1 c.vars (fun g=>g.name == n) e∧Chg [] w' w'') from fun w' hc=>index_glob #[ptr w.heap.size] 103 (fun _ _=>rfl) c.vars HVS _ F vv w' (HGV.out.kept hc (by simp)) (fun x _ w2 h2=>isg_any x n be w.heap.size c0 (.int .i64 p) c2 (str m) c5 c6 c7 c8 w2 ((hc.then h2).cellSome (HB.out.cell 0 _ rfl) (by simp)) (HX.out.kept (hc.then h2) (by simp))))
 have HIP:=Lib.hid (show ∀ w',Chg [] w0 w'→Calls Tryz.prog 104 #[vp,.func (.func 105) #[] #[ptr w.heap.size]] w' (fun e w''=>At1 c.procs (fun g=>g.name == n) e∧Chg [] w' w'') from fun w' hc=>index_proc #[ptr w.heap.size] 105 (fun _ _=>rfl) c.procs HPS _ F vp w' (HPV.out.kept hc (by simp)) (fun x _ pos a1 k1 a2 n2 k2 a3 n3 k3 w2 h2=>isp_any x n pos a1 k1 a2 n2 k2 a3 n3 k3 be w.heap.size c0 (.int .i64 p) c2 (str m) c5 c6 c7 c8 w2 ((hc.then h2).cellSome (HB.out.cell 0 _ rfl) (by simp)) (HX.out.kept (hc.then h2) (by simp))))
 cases m with
 | nil=>
  clear HCM
  go_enter Tryz.func88,Tryz.ntmps88
  go_wp2_with fail
  obtain ⟨wD,hwD⟩ : ∃ x,x=w0.drew:=⟨_,rfl⟩
  have HC0:=Lib.hid (HC0.out.then (show Chg [] w0 wD by rw [hwD]; exact (Chg.refl [] w0).drew)); clear b0 x1 x3 x4 k1 k2 k3 k5 k6
  obtain ⟨b0,x1,x3,x4,k1,k2,k3,k5,k6⟩:=HM.out _ HC0.out
  refine wp_region_C [] rfl (by kernel_rfl) ?_
  rw [← hwD]
  clear hwD
  have hS:Chg [] wD wD:=Chg.refl _ _
  repeat ((with_reducible refine gX ?_); (first | refine wpX_nil ?_ | refine sK ?_ | refine sM fun _ _=>?_ | refine sL fun _ _=>?_ | refine sE fun _ _=>?_); go_wp2_with fail)
  refine (HCT.out _ HC0.out).mono ?_; rintro _ _ ⟨rfl,hw⟩; have hw:=hw.symm; subst hw
  go_wp2_with fail
  refine And.intro hS ?_
  cases hl : decide (n∈c.locals)
  case' true=>
   have HFD:=Lib.hid (show c.find p [] n = .is ⟨n,0,-1⟩ by rw [Env.find,if_neg (by simp),if_pos (by simpa using hl)])
   clear hl
   have hr:=HR.out _ HC0.out
   obtain ⟨e0,e1,e2⟩:=hr.three; obtain ⟨r0,r1,r2,_⟩:=hr.free6; obtain ⟨wF,hwF,hcF,hbF⟩:=set3 (str n) (.int .i64 0) (.int .i64 (-1)) hr; obtain ⟨f0,f1,f2⟩:=hbF.three
   have HCF:=Lib.hid (show Chg [] w wF from (HC.out.then HC0.out).trans hcF (fun x hx=>.inr (by simp at hx; omega)))
   clear hr hcF hbF
   repeat ((with_reducible refine gX ?_); (first | refine wpX_nil ?_ | refine sK ?_ | refine sM fun _ _=>?_ | refine sL fun _ _=>?_ | refine sE fun _ _=>?_); go_wp2_with fail)
   clear hS
   go_wp2_with fail
   refine bodyPost_ret (v:=.agg #[str n,.int .i64 0,.int .i64 (-1)]) (by simp [results,Tryz.results88,go_sem,f0,f1,f2]) rfl ?_
   rw [HFD.out]
   exact ⟨HCF.out,rfl⟩
  have hnl:=Lib.hid (show n∉c.locals by simpa using hl)
  clear hl
  repeat ((with_reducible refine gX ?_); (first | refine wpX_nil ?_ | refine sK ?_ | refine sM fun _ _=>?_ | refine sL fun _ _=>?_ | refine sE fun _ _=>?_); go_wp2_with fail)
  clear hS
  go_wp2_with fail
  refine (HIG.out _ HC0.out).mono ?_; rintro _ w2 ⟨hat,hc2⟩
  have HC0:=Lib.hid (HC0.out.then (hc2)); clear b0 x1 x3 x4 k1 k2 k3 k5 k6
  obtain ⟨b0,x1,x3,x4,k1,k2,k3,k5,k6⟩:=HM.out _ HC0.out
  clear hc2
  rw [At1] at hat
  cases hg : c.vars.find? (fun g=>g.name == n) with
  | some g=>
   rw [hg] at hat
   have HFD:=Lib.hid (show c.find p [] n = .is ⟨n,g.len,-1⟩ by rw [Env.find,if_neg (by simp),if_neg hnl.out,hg])
   obtain ⟨k,hk,rfl⟩:=hat
   have hlt : k < c.vars.length:=(List.getElem?_eq_some_iff.1 hk).1
   obtain ⟨av,cv,hvv,_,hvr⟩:=HGV.out
   obtain ⟨bb,off,rfl,_,_,d2,_⟩:=glob_cells hvr hk
   subst hvv
   have HD2:=Lib.hid d2
   clear hvr hk d2 hg
   go_wp2_with fail
   obtain ⟨wE,hwD⟩ : ∃ x,x=w2.drew:=⟨_,rfl⟩
   have HC0:=Lib.hid (HC0.out.then (show Chg [] w2 wE by rw [hwD]; exact (Chg.refl [] w2).drew)); clear b0 x1 x3 x4 k1 k2 k3 k5 k6
   obtain ⟨b0,x1,x3,x4,k1,k2,k3,k5,k6⟩:=HM.out _ HC0.out
   have d2 : wE.cell? _=_:=HC0.out.cellSome HD2.out (by simp)
   have hr:=HR.out _ HC0.out
   obtain ⟨e0,e1,e2⟩:=hr.three; obtain ⟨r0,r1,r2,_⟩:=hr.free6; obtain ⟨wF,hwF,hcF,hbF⟩:=set3 (str n) (.int .i64 g.len) (.int .i64 (-1)) hr; obtain ⟨f0,f1,f2⟩:=hbF.three
   have HCF:=Lib.hid (show Chg [] w wF from (HC.out.then HC0.out).trans hcF (fun x hx=>.inr (by simp at hx; omega)))
   clear hr hcF hbF
   refine wp_region_T [] rfl (by kernel_rfl) rfl ?_
   rw [← hwD]
   clear hwD
   have hS:Chg [] wE wE:=Chg.refl _ _
   repeat ((with_reducible refine gX ?_); (first | refine wpX_nil ?_ | refine sK ?_ | refine sM fun _ _=>?_ | refine sL fun _ _=>?_ | refine sE fun _ _=>?_); go_wp2_with fail)
   refine stepX_ef rfl rfl (fun _ _=>?_)
   change Oper.wp _ (Oper.mk ..) ..
   go_wp2_with fail
   refine bodyPost_ret (v:=.agg #[str n,.int .i64 g.len,.int .i64 (-1)]) (by simp [results,Tryz.results88,go_sem,f0,f1,f2]) rfl ?_
   rw [HFD.out]
   exact ⟨HCF.out,rfl⟩
  | none=>
   rw [hg] at hat
   subst hat
   have HG:=Lib.hid hg
   clear hg
   go_wp2_with fail
   refine (HIP.out _ HC0.out).mono ?_; rintro _ w3 ⟨hat,hc2⟩
   have HC0:=Lib.hid (HC0.out.then (hc2)); clear b0 x1 x3 x4 k1 k2 k3 k5 k6
   obtain ⟨b0,x1,x3,x4,k1,k2,k3,k5,k6⟩:=HM.out _ HC0.out
   clear hc2
   rw [At1] at hat
   cases hp : c.procs.find? (fun x=>x.name == n) with
   | none=>
    rw [hp] at hat
    subst hat
    have HFD:=Lib.hid (show c.find p [] n = .bad 7 p by rw [Env.find,if_neg (by simp),if_neg hnl.out,HG.out,hp])
    clear hp
    go_wp2_with fail
    refine (cfail_any 7 p _).mono ?_
    rintro _ w9 ⟨hc,b9,rfl,hlt,hb9⟩
    have hsz:=(HC.out.then HC0.out).size
    have HE:=Lib.hid (show Chg [] w w9∧w.heap.size≤b9∧Blk w9 b9 #[.int .i64 7,.int .i64 p] 96 from ⟨(HC.out.then HC0.out).then hc,by omega,hb9⟩)
    clear hc hb9 hlt
    go_wp2_with fail
    rw [HFD.out]
    exact ⟨rfl,HE.out.1,b9,rfl,HE.out.2.1,HE.out.2.2⟩
   | some x=>
    rw [hp] at hat
    have HFD:=Lib.hid (show c.find p [] n = .is ⟨n,0,x.params.length⟩ by rw [Env.find,if_neg (by simp),if_neg hnl.out,HG.out,hp])
    obtain ⟨k,hk,rfl⟩:=hat
    have hlt : k < c.procs.length:=(List.getElem?_eq_some_iff.1 hk).1
    obtain ⟨bb,off,cp,pos,a1,q1,a2,n2,q2,a3,n3,q3,hvv,_,_,_,_,d2,_,_⟩:=proc_cells HPV.out hk
    subst hvv
    have HD2:=Lib.hid d2
    clear hk d2 hp
    go_wp2_with fail
    obtain ⟨wE,hwD⟩ : ∃ x,x=w3.drew:=⟨_,rfl⟩
    have HC0:=Lib.hid (HC0.out.then (show Chg [] w3 wE by rw [hwD]; exact (Chg.refl [] w3).drew)); clear b0 x1 x3 x4 k1 k2 k3 k5 k6
    obtain ⟨b0,x1,x3,x4,k1,k2,k3,k5,k6⟩:=HM.out _ HC0.out
    have d2 : wE.cell? _=_:=HC0.out.cellSome HD2.out (by simp)
    have hr:=HR.out _ HC0.out
    obtain ⟨e0,e1,e2⟩:=hr.three; obtain ⟨r0,r1,r2,_⟩:=hr.free6; obtain ⟨wF,hwF,hcF,hbF⟩:=set3 (str n) (.int .i64 0) (.int .i64 x.params.length) hr; obtain ⟨f0,f1,f2⟩:=hbF.three
    have HCF:=Lib.hid (show Chg [] w wF from (HC.out.then HC0.out).trans hcF (fun x hx=>.inr (by simp at hx; omega)))
    clear hr hcF hbF
    refine wp_region_T [] rfl (by kernel_rfl) rfl ?_
    rw [← hwD]
    clear hwD
    have hS:Chg [] wE wE:=Chg.refl _ _
    repeat ((with_reducible refine gX ?_); (first | refine wpX_nil ?_ | refine sK ?_ | refine sM fun _ _=>?_ | refine sL fun _ _=>?_ | refine sE fun _ _=>?_); go_wp2_with fail)
    refine stepX_ef rfl rfl (fun _ _=>?_)
    change Oper.wp _ (Oper.mk ..) ..
    go_wp2_with fail
    refine bodyPost_ret (v:=.agg #[str n,.int .i64 0,.int .i64 x.params.length]) (by simp [results,Tryz.results88,go_sem,f0,f1,f2]) rfl ?_
    rw [HFD.out]
    exact ⟨HCF.out,rfl⟩
 | cons ch mr=>
  have hmn:=Lib.hid (show ch :: mr≠[] by simp)
  obtain ⟨m,hm⟩ : ∃ m,m=ch :: mr:=⟨_,rfl⟩
  clear HCT HIG HIP
  rw [← hm] at hmn HX HM HCM x3 ⊢
  have hme : m.isEmpty=false:=by rw [hm]; rfl
  clear hm
  go_enter Tryz.func88,Tryz.ntmps88
  go_wp2_with fail
  obtain ⟨wD,hwD⟩ : ∃ x,x=w0.drew:=⟨_,rfl⟩
  have HC0:=Lib.hid (HC0.out.then (show Chg [] w0 wD by rw [hwD]; exact (Chg.refl [] w0).drew)); clear b0 x1 x3 x4 k1 k2 k3 k5 k6
  obtain ⟨b0,x1,x3,x4,k1,k2,k3,k5,k6⟩:=HM.out _ HC0.out
  refine wp_region_C [] rfl (by kernel_rfl) ?_
  rw [← hwD]
  clear hwD
  have hS:Chg [] wD wD:=Chg.refl _ _
  repeat ((with_reducible refine gX ?_); (first | refine wpX_nil ?_ | refine sK ?_ | refine sM fun _ _=>?_ | refine sL fun _ _=>?_ | refine sE fun _ _=>?_); go_wp2_with fail)
  refine (HCM.out _ HC0.out).mono ?_; rintro _ _ ⟨rfl,hw⟩; have hw:=hw.symm; subst hw
  go_wp2_with fail
  refine And.intro hS ?_
  cases hi : decide (m∈c.imports)
  case' false=>
   have HFD:=Lib.hid (show c.find p m n = .bad 5 p by rw [Env.find,if_pos hmn.out,if_pos (by simpa using hi)])
   clear hi
   repeat ((with_reducible refine gX ?_); (first | refine wpX_nil ?_ | refine sK ?_ | refine sM fun _ _=>?_ | refine sL fun _ _=>?_ | refine sE fun _ _=>?_); go_wp2_with fail)
   clear hS
   go_wp2_with fail
   refine (cfail_any 5 p _).mono ?_
   rintro _ w9 ⟨hc,b9,rfl,hlt,hb9⟩
   have hsz:=(HC.out.then HC0.out).size
   have HE:=Lib.hid (show Chg [] w w9∧w.heap.size≤b9∧Blk w9 b9 #[.int .i64 5,.int .i64 p] 96 from ⟨(HC.out.then HC0.out).then hc,by omega,hb9⟩)
   clear hc hb9 hlt
   go_wp2_with fail
   rw [HFD.out]
   exact ⟨rfl,HE.out.1,b9,rfl,HE.out.2.1,HE.out.2.2⟩
  have him:=Lib.hid (show m∈c.imports by simpa using hi)
  clear hi
  obtain ⟨u,hlk,_,hfew,hsy⟩:=look_seen HSV.out m
  obtain ⟨l,hl⟩ : ∃ l,l=(c.seen m).getD []:=⟨_,rfl⟩
  rw [← hl] at hfew hsy
  have HLK:=Lib.hid hlk; have HSY:=Lib.hid hsy; have HL:=Lib.hid hl
  have HFC:=Lib.hid (show ∀ w',Chg [] w0 w'→Calls Tryz.prog 101 #[u,str n] w' (fun e w''=>e = .returned (.int .i64 (findI l n))∧Chg [] w' w'') from fun w' hc=>find_any l hfew n F u w' (HSY.out.kept hc (by simp)))
  clear hlk hsy hl
  repeat ((with_reducible refine gX ?_); (first | refine wpX_nil ?_ | refine sK ?_ | refine sM fun _ _=>?_ | refine sL fun _ _=>?_ | refine sE fun _ _=>?_); go_wp2_with fail)
  clear hS
  go_wp2_with fail
  obtain ⟨wE,hwD⟩ : ∃ x,x=wD.drew:=⟨_,rfl⟩
  have HC0:=Lib.hid (HC0.out.then (show Chg [] wD wE by rw [hwD]; exact (Chg.refl [] wD).drew)); clear b0 x1 x3 x4 k1 k2 k3 k5 k6
  obtain ⟨b0,x1,x3,x4,k1,k2,k3,k5,k6⟩:=HM.out _ HC0.out
  have hlu : (Instr.lookup 34 vm (str m) false).run Tryz.prog wE = .ok u wE:=HLK.out wE HC0.out
  refine wp_region_C [] rfl (by kernel_rfl) ?_
  rw [← hwD]
  clear hwD
  have hS:Chg [] wE wE:=Chg.refl _ _
  repeat ((with_reducible refine gX ?_); (first | refine wpX_nil ?_ | refine sK ?_ | refine sM fun _ _=>?_ | refine sL fun _ _=>?_ | refine sE fun _ _=>?_); go_wp2_with fail)
  refine And.intro hS ?_
  repeat ((with_reducible refine gX ?_); (first | refine wpX_nil ?_ | refine sK ?_ | refine sM fun _ _=>?_ | refine sL fun _ _=>?_ | refine sE fun _ _=>?_); go_wp2_with fail)
  refine (HFC.out _ HC0.out).mono ?_; rintro _ w2 ⟨rfl,hc2⟩
  have hS:Chg [] wE w2:=hc2
  have HC0:=Lib.hid (HC0.out.then (hc2)); clear b0 x1 x3 x4 k1 k2 k3 k5 k6
  obtain ⟨b0,x1,x3,x4,k1,k2,k3,k5,k6⟩:=HM.out _ HC0.out
  clear hc2
  go_wp2_with fail
  refine And.intro hS ?_
  cases hf : findS l n with
  | none=>
   rw [show findI l n = -1 by rw [findI,hf]]
   have HFD:=Lib.hid (show c.find p m n = .bad 7 p by rw [Env.find,if_pos hmn.out,if_neg (by simpa using him.out),← HL.out,hf])
   clear hf
   repeat ((with_reducible refine gX ?_); (first | refine wpX_nil ?_ | refine sK ?_ | refine sM fun _ _=>?_ | refine sL fun _ _=>?_ | refine sE fun _ _=>?_); go_wp2_with fail)
   clear hS
   go_wp2_with fail
   refine (cfail_any 7 p _).mono ?_
   rintro _ w9 ⟨hc,b9,rfl,hlt,hb9⟩
   have hsz:=(HC.out.then HC0.out).size
   have HE:=Lib.hid (show Chg [] w w9∧w.heap.size≤b9∧Blk w9 b9 #[.int .i64 7,.int .i64 p] 96 from ⟨(HC.out.then HC0.out).then hc,by omega,hb9⟩)
   clear hc hb9 hlt
   go_wp2_with fail
   rw [HFD.out]
   exact ⟨rfl,HE.out.1,b9,rfl,HE.out.2.1,HE.out.2.2⟩
  | some k=>
   rw [show findI l n=k by rw [findI,hf]]
   have hkl:=findS_lt hf
   obtain ⟨s,hs⟩ : ∃ s,l[k]?=some s:=⟨l[k],List.getElem?_eq_getElem hkl⟩
   have HFD:=Lib.hid (show c.find p m n = .is s by
    rw [Env.find,if_pos hmn.out,if_neg (by simpa using him.out),← HL.out,hf]
    simp only [List.getD_eq_getElem?_getD,hs,Option.getD_some])
   obtain ⟨ua,uc,rfl,huc,hur,_⟩:=HSY.out
   obtain ⟨bb,off,rfl,d0,d1,d2⟩:=sy_cells3 hur hs
   have HD:=Lib.hid (And.intro d0 (And.intro d1 d2))
   clear hf hs hur d0 d1 d2 hlu
   repeat ((with_reducible refine gX ?_); (first | refine wpX_nil ?_ | refine sK ?_ | refine sM fun _ _=>?_ | refine sL fun _ _=>?_ | refine sE fun _ _=>?_); go_wp2_with fail)
   clear hS
   go_wp2_with fail
   obtain ⟨wG,hwD⟩ : ∃ x,x=w2.drew:=⟨_,rfl⟩
   have HC0:=Lib.hid (HC0.out.then (show Chg [] w2 wG by rw [hwD]; exact (Chg.refl [] w2).drew)); clear b0 x1 x3 x4 k1 k2 k3 k5 k6
   obtain ⟨b0,x1,x3,x4,k1,k2,k3,k5,k6⟩:=HM.out _ HC0.out
   have d0 : wG.cell? _=_:=HC0.out.cellSome HD.out.1 (by simp)
   have d1 : wG.cell? _=_:=HC0.out.cellSome HD.out.2.1 (by simp)
   have d2 : wG.cell? _=_:=HC0.out.cellSome HD.out.2.2 (by simp)
   have hlu : (Instr.lookup 34 vm (str m) false).run Tryz.prog wG = .ok (.slice (some ⟨bb,off,none⟩) l.length uc) wG:=HLK.out wG HC0.out
   have hr:=HR.out _ HC0.out
   obtain ⟨e0,e1,e2⟩:=hr.three; obtain ⟨r0,r1,r2,_⟩:=hr.free6; obtain ⟨wF,hwF,hcF,hbF⟩:=set3 (str s.name) (.int .i64 s.len) (.int .i64 s.args) hr; obtain ⟨f0,f1,f2⟩:=hbF.three
   have HCF:=Lib.hid (show Chg [] w wF from (HC.out.then HC0.out).trans hcF (fun x hx=>.inr (by simp at hx; omega)))
   clear hr hcF hbF
   refine wp_region_T [] rfl (by kernel_rfl) rfl ?_
   rw [← hwD]
   clear hwD
   have hS:Chg [] wG wG:=Chg.refl _ _
   repeat ((with_reducible refine gX ?_); (first | refine wpX_nil ?_ | refine sK ?_ | refine sM fun _ _=>?_ | refine sL fun _ _=>?_ | refine sE fun _ _=>?_); go_wp2_with fail)
   refine And.intro hS ?_
   repeat ((with_reducible refine gX ?_); (first | refine wpX_nil ?_ | refine sK ?_ | refine sM fun _ _=>?_ | refine sL fun _ _=>?_ | refine sE fun _ _=>?_); go_wp2_with fail)
   refine stepX_ef rfl rfl (fun _ _=>?_)
   change Oper.wp _ (Oper.mk ..) ..
   go_wp2_with fail
   refine bodyPost_ret (v:=.agg #[str s.name,.int .i64 s.len,.int .i64 s.args]) (by simp [results,Tryz.results88,go_sem,f0,f1,f2]) rfl ?_
   rw [HFD.out]
   exact ⟨HCF.out,rfl⟩
end Go.Proofs.YtilhhkokdfajiaaGreatDoor
namespace Go.Mq.Check
open Go Go.RowKit Go.Mq Go.Mq.Tree Go.Mq.Sym
def orL (l:List Look):Look:=l.foldr Option.or none
theorem orL_cons (r:Look) (l:List Look) : orL (r :: l)=r.or (orL l):=rfl
def headL (c:Env) (t p:Nat) (m n:List UInt8) (k:Nat):Look:=
 if t=2 then nameL c p m n fun s=>if 0≤s.args∨0 < s.len then some (1,p) else none
 else if t=3 then nameL c p m n fun s=>if 0≤s.args∨¬ 0 < s.len then some (1,p) else none
 else if t=6 then nameL c p m n fun s=>if ¬ 0≤s.args then some (1,p) else if (k:Int)≠s.args then some (2,p) else none
 else none
end Go.Mq.Check
namespace Go.Proofs.YtilhhkokdfajiaaGreatDoor
open Go Go.RowKit Go.Mq Go.Mq.Tree Go.Mq.Sym Go.Mq.Check
set_option maxRecDepth 100000
set_option maxHeartbeats 2000000
def Kid (bc:Nat) (w:World) (u:Value) (r:Look):Prop:=(u=nilp∧r=none) ∨ ∃ b,u=ptr b ∧ ∀ w',Chg [] w w'→Calls Tryz.prog 65 #[ptr bc,ptr b] w' (Looked [] w' r)
def Kids (bc:Nat) (w:World):List Value→List Look→Prop
 | [],rs=>rs=[]
 | u :: us,rs=>∃ r rs',rs=r :: rs'∧Kid bc w u r∧Kids bc w us rs'
theorem Kids.one {bc:Nat} {w:World} : ∀ {us:List Value} {rs:List Look},Kids bc w us rs → ∀ x∈us,x.oneCell'=true
 | [],_,_=>by simp
 | u :: us,_,h=>by
  obtain ⟨r,rs',rfl,hk,h⟩:=h
  intro x hx
  rcases List.mem_cons.1 hx with rfl | hx
  ·rcases hk with ⟨rfl,_⟩ | ⟨b,rfl,_⟩ <;> rfl
  ·exact h.one x hx
theorem expr_node (t:Nat) (ht : (t=1∨t=4∨t=5)∨t=2∨t=3∨t=6) (c:Env) (F:Nat→Prop) (bc be p:Nat) (c2 c5:Value) (ou ov:Option Addr) (m n:List UInt8) (a:Option Addr) (kk:Nat) (vs:List Value) (rs:List Look) (w:World) (hx:Blk w be #[.int .i64 t,.int .i64 p,c2,str m,str n,c5,.pointer ou,.pointer ov,.slice a vs.length kk] 83) (hat:At w a vs) (hfew : vs.length≤1000) (hks:Kids bc w (.pointer ou :: .pointer ov :: vs) rs) (hE:EnvAt w F c bc) :
  Calls Tryz.prog 65 #[ptr bc,ptr be] w (Looked [] w ((headL c t p m n vs.length).or (orL rs))):=by
 have HFD:=Lib.hid (cfind_any c bc be p m n (.int .i64 t) c2 c5 (.pointer ou) (.pointer ov) (.slice a vs.length kk) F w hE hx)
 clear hE
 have HX:=Lib.hid hx; have HAT:=Lib.hid hat; have HKS:=Lib.hid hks; have HCW:=Lib.hid (Chg.refl [] w)
 clear hx hat hks
 obtain ⟨tgt,htgt⟩ : ∃ x,x=(headL c t p m n vs.length).or (orL rs):=⟨_,rfl⟩
 rw [← htgt]
 have HT0:=Lib.hid htgt
 clear htgt
 rcases ht with ht | ht
 focus
  rcases ht with rfl | rfl | rfl
  all_goals
   have x0 : w.cell? ⟨be,0,none⟩=_:=HX.out.cell 0 _ rfl
   have HTG:=Lib.hid (show tgt=orL rs from HT0.out)
   go_enter Tryz.func65,Tryz.ntmps65
   go_wp2_with fail
   clear x0 HFD
   obtain ⟨wD,hwD⟩ : ∃ x,x=w.drew:=⟨_,rfl⟩
   have hWD:Chg [] w wD:=by rw [hwD]; exact (Chg.refl [] w).drew
   have HX:=Lib.hid (HX.out.kept hWD (by simp)); have HCW:=Lib.hid (HCW.out.then hWD)
   clear hWD
 rotate_left 3
 focus
  cases hf : c.find p m n
  case' bad en q=>
   rw [hf] at HFD
   have HTG:=Lib.hid (show tgt=some (en,q) by rw [HT0.out]; rcases ht with rfl | rfl | rfl <;> simp [headL,nameL,hf])
   clear hf
   rcases ht with rfl | rfl | rfl
   all_goals
    have x0 : w.cell? ⟨be,0,none⟩=_:=HX.out.cell 0 _ rfl
    go_enter Tryz.func65,Tryz.ntmps65
    go_wp2_with fail
    refine HFD.out.mono ?_
    rintro _ w9 ⟨hc,b9,rfl,hl9,hb9⟩
    have HC9:=Lib.hid hc; have HB9:=Lib.hid hb9; have HL9:=Lib.hid hl9
    clear hc hb9 hl9
    go_wp2_with fail
    rw [HTG.out]
    exact ⟨rfl,HC9.out,b9,rfl,HL9.out,HB9.out⟩
  case' is s=>
   rw [hf] at HFD
   have HF:=Lib.hid hf
   clear hf
   rcases ht with rfl | rfl | rfl <;> cases ha : decide (0≤s.args)
   all_goals
    have x0 : w.cell? ⟨be,0,none⟩=_:=HX.out.cell 0 _ rfl
    go_enter Tryz.func65,Tryz.ntmps65
    go_wp2_with fail
    refine HFD.out.mono ?_; rintro _ w2 ⟨hc2,rfl⟩
    have hWD:Chg [] w w2:=hc2
    have HX:=Lib.hid (HX.out.kept hWD (by simp)); have HCW:=Lib.hid (HCW.out.then hWD)
    clear hWD
    clear hc2 x0
    have hz:=Blk.new w2 #[str [],.int .i64 0,.int .i64 0] 41
    obtain ⟨wA,hwA⟩ : ∃ w',w2.alloc (.cells #[str [],.int .i64 0,.int .i64 0] 41)=w':=⟨_,rfl⟩
    rw [hwA] at hz
    have hcA:Chg [] w2 wA:=by rw [← hwA]; exact (Chg.refl _ _).alloc _
    obtain ⟨wF,hwF,hcF,hbF⟩:=set3 (str s.name) (.int .i64 s.len) (.int .i64 s.args) hz
    have hcF':Chg [] w2 wF:=hcA.trans hcF (fun x hx=>.inr (by simp at hx; omega))
    obtain ⟨z0,z1,z2⟩:=hz.three; obtain ⟨y0,y1,y2,_⟩:=hz.free6
    have HSB:=Lib.hid hbF
    have hWD:Chg [] w2 wF:=hcF'
    have HX:=Lib.hid (HX.out.kept hWD (by simp)); have HCW:=Lib.hid (HCW.out.then hWD)
    clear hWD
    clear hcA hcF hbF hz hcF'
    go_wp2_with fail
    clear z0 z1 z2 y0 y1 y2 hwA hwF
    obtain ⟨wP,hwD⟩ : ∃ x,x=wF.drew:=⟨_,rfl⟩
    have HSB:=Lib.hid (show Blk wP w2.heap.size #[str s.name,.int .i64 s.len,.int .i64 s.args] 41 by rw [hwD]; exact HSB.out)
    have hWD:Chg [] wF wP:=by rw [hwD]; exact (Chg.refl [] wF).drew
    have HX:=Lib.hid (HX.out.kept hWD (by simp)); have HCW:=Lib.hid (HCW.out.then hWD)
    clear hWD
    have x0 : wP.cell? ⟨be,0,none⟩=_:=HX.out.cell 0 _ rfl
    have x1 : wP.cell? ⟨be,1,none⟩=_:=HX.out.cell 1 _ rfl
    have x8 : wP.cell? ⟨be,8,none⟩=_:=HX.out.cell 8 _ rfl
    obtain ⟨_,s1,s2⟩:=HSB.out.three
    refine wp_region_C [] rfl (by kernel_rfl) ?_
    rw [← hwD]
    clear hwD
    have hS:Chg [] wP wP:=Chg.refl _ _
    repeat ((with_reducible refine gX ?_); (first | refine wpX_nil ?_ | refine sK ?_ | refine sM fun _ _=>?_ | refine sL fun _ _=>?_ | refine sE fun _ _=>?_); go_wp2_with fail)
    go_wp2_with fail
   any_goals
    (with_reducible show Calls _ _ _ _ _); refine (cfail_any 1 p _).mono ?_
    rintro _ w9 ⟨hc,b9,rfl,hl9,hb9⟩
    have HC9:=Lib.hid (HCW.out.then hc); have HB9:=Lib.hid hb9; have HL9:=Lib.hid hl9
    have hsz:=HCW.out.size
    clear hc hb9 hl9
    go_wp2_with fail
    rw [show tgt=some (1,p) by rw [HT0.out]; simp only [headL,nameL,HF.out,Nat.reduceEqDiff,if_true,if_false]; (repeat' split); all_goals first | rfl | (exfalso; simp_all; done) | (exfalso; simp_all; omega)]
    exact ⟨rfl,HC9.out,b9,rfl,by have:=HL9.out; omega,HB9.out⟩
   all_goals
    clear s1 s2 hS x0 x1 x8
    obtain ⟨wQ,hwD⟩ : ∃ x,x=wP.drew:=⟨_,rfl⟩
    have HSB:=Lib.hid (show Blk wQ w2.heap.size #[str s.name,.int .i64 s.len,.int .i64 s.args] 41 by rw [hwD]; exact HSB.out)
    have hWD:Chg [] wP wQ:=by rw [hwD]; exact (Chg.refl [] wP).drew
    have HX:=Lib.hid (HX.out.kept hWD (by simp)); have HCW:=Lib.hid (HCW.out.then hWD)
    clear hWD
    have x0 : wQ.cell? ⟨be,0,none⟩=_:=HX.out.cell 0 _ rfl
    have x1 : wQ.cell? ⟨be,1,none⟩=_:=HX.out.cell 1 _ rfl
    have x8 : wQ.cell? ⟨be,8,none⟩=_:=HX.out.cell 8 _ rfl
    obtain ⟨_,s1,s2⟩:=HSB.out.three
    refine wp_region_C [] rfl (by kernel_rfl) ?_
    rw [← hwD]
    clear hwD
    have hS:Chg [] wQ wQ:=Chg.refl _ _
    repeat ((with_reducible refine gX ?_); (first | refine wpX_nil ?_ | refine sK ?_ | refine sM fun _ _=>?_ | refine sL fun _ _=>?_ | refine sE fun _ _=>?_); go_wp2_with fail)
    go_wp2_with fail
   any_goals
    (with_reducible show Calls _ _ _ _ _); refine (cfail_any 1 p _).mono ?_
    rintro _ w9 ⟨hc,b9,rfl,hl9,hb9⟩
    have HC9:=Lib.hid (HCW.out.then hc); have HB9:=Lib.hid hb9; have HL9:=Lib.hid hl9
    have hsz:=HCW.out.size
    clear hc hb9 hl9
    go_wp2_with fail
    rw [show tgt=some (1,p) by rw [HT0.out]; simp only [headL,nameL,HF.out,Nat.reduceEqDiff,if_true,if_false]; (repeat' split); all_goals first | rfl | (exfalso; simp_all; done) | (exfalso; simp_all; omega)]
    exact ⟨rfl,HC9.out,b9,rfl,by have:=HL9.out; omega,HB9.out⟩
   all_goals
    clear s1 s2 hS x0 x1 x8
    obtain ⟨wR,hwD⟩ : ∃ x,x=wQ.drew:=⟨_,rfl⟩
    have HSB:=Lib.hid (show Blk wR w2.heap.size #[str s.name,.int .i64 s.len,.int .i64 s.args] 41 by rw [hwD]; exact HSB.out)
    have hWD:Chg [] wQ wR:=by rw [hwD]; exact (Chg.refl [] wQ).drew
    have HX:=Lib.hid (HX.out.kept hWD (by simp)); have HCW:=Lib.hid (HCW.out.then hWD)
    clear hWD
    have x0 : wR.cell? ⟨be,0,none⟩=_:=HX.out.cell 0 _ rfl
    have x1 : wR.cell? ⟨be,1,none⟩=_:=HX.out.cell 1 _ rfl
    have x8 : wR.cell? ⟨be,8,none⟩=_:=HX.out.cell 8 _ rfl
    obtain ⟨_,s1,s2⟩:=HSB.out.three
    refine wp_region_C [] rfl (by kernel_rfl) ?_
    rw [← hwD]
    clear hwD
    have hS:Chg [] wR wR:=Chg.refl _ _
    repeat ((with_reducible refine gX ?_); (first | refine wpX_nil ?_ | refine sK ?_ | refine sM fun _ _=>?_ | refine sL fun _ _=>?_ | refine sE fun _ _=>?_); go_wp2_with fail)
    go_wp2_with fail
   any_goals
    (with_reducible show Calls _ _ _ _ _); refine (cfail_any 2 p _).mono ?_
    rintro _ w9 ⟨hc,b9,rfl,hl9,hb9⟩
    have HC9:=Lib.hid (HCW.out.then hc); have HB9:=Lib.hid hb9; have HL9:=Lib.hid hl9
    have hsz:=HCW.out.size
    clear hc hb9 hl9
    go_wp2_with fail
    rw [show tgt=some (2,p) by rw [HT0.out]; simp only [headL,nameL,HF.out,Nat.reduceEqDiff,if_true,if_false]; (repeat' split); all_goals first | rfl | (exfalso; simp_all; done) | (exfalso; simp_all; omega)]
    exact ⟨rfl,HC9.out,b9,rfl,by have:=HL9.out; omega,HB9.out⟩
   all_goals
    clear s1 s2 hS x0 x1 x8
    have HTG:=Lib.hid (show tgt=orL rs by rw [HT0.out]; simp only [headL,nameL,HF.out,Nat.reduceEqDiff,if_true,if_false]; (repeat' split); all_goals first | rfl | (exfalso; simp_all; done) | (exfalso; simp_all; omega))
    obtain ⟨wD,hwD⟩ : ∃ x,x=wR.drew:=⟨_,rfl⟩
    have hWD:Chg [] wR wD:=by rw [hwD]; exact (Chg.refl [] wR).drew
    have HX:=Lib.hid (HX.out.kept hWD (by simp)); have HCW:=Lib.hid (HCW.out.then hWD)
    clear hWD
 all_goals
  have x6 : wD.cell? ⟨be,6,none⟩=_:=HX.out.cell 6 _ rfl
  have x7 : wD.cell? ⟨be,7,none⟩=_:=HX.out.cell 7 _ rfl
  have x8 : wD.cell? ⟨be,8,none⟩=_:=HX.out.cell 8 _ rfl
  have hown : (wD.alloc (.cells #[.pointer ou,.pointer ov] 80)).ownsRow 0 80 1 (.slice (some ⟨wD.heap.size,0,none⟩) 2 2) 2 [.pointer ou,.pointer ov]:=⟨rfl,.inr ⟨wD.heap.size,2,#[.pointer ou,.pointer ov],rfl,Nat.zero_le _,heap_alloc_new wD _,Nat.le_refl _,by unfold maxLen; omega,rfl,rfl⟩⟩
  have HOWN:=Lib.hid hown
  have hca:Chg [] wD (wD.alloc (.cells #[.pointer ou,.pointer ov] 80)):=(Chg.refl _ _).alloc _
  have HATD:=Lib.hid (show At (wD.alloc (.cells #[.pointer ou,.pointer ov] 80)) a vs from HAT.out.kept (HCW.out.then hca) (fun p hp hm=>by simp at hm))
  have HONE:=Lib.hid (show ∀ x∈vs,x.oneCell'=true from fun x hx=>HKS.out.one x (by simp [hx]))
  obtain ⟨US,hUS⟩ : ∃ U,U=[.pointer ou,.pointer ov] ++ vs:=⟨_,rfl⟩
  have hUL:US.length=2 + vs.length:=by rw [hUS]; simp; omega
  have HKS:=Lib.hid (show Kids bc w US rs by rw [hUS]; exact HKS.out)
  have HUS:=Lib.hid hUS
  have hbe : be≠wD.heap.size:=by have:=HX.out.lt; omega
  have x8a:=hca.cellSome x8 (by simp)
  clear hown hca hUS
  refine wp_region_C [] rfl (by kernel_rfl) ?_
  rw [← hwD]
  clear hwD
  have hS:Chg [] wD wD:=Chg.refl _ _
  repeat ((with_reducible refine gX ?_); (first | refine wpX_nil ?_ | refine sK ?_ | refine sM fun _ _=>?_ | refine sL fun _ _=>?_ | refine sE fun _ _=>?_); go_wp2_with fail)
  refine And.intro (hS.alloc _) ?_
  have hS1:Chg [] wD (wD.alloc (.cells #[.pointer ou,.pointer ov] 80)):=hS.alloc _
  repeat ((with_reducible refine gX ?_); (first | refine wpX_nil ?_ | refine sK ?_ | refine sM fun _ _=>?_ | refine sL fun _ _=>?_ | refine sE fun _ _=>?_); go_wp2_with fail)
  refine wpX_append_any _ _ 81 rfl rfl rfl 80 (.pointer none) 1 8 infoPtr Tryz.underlying81 rfl (by decide) (.slice (some ⟨wD.heap.size,0,none⟩) 2 2) 2 [.pointer ou,.pointer ov] rfl HOWN.out a vs.length kk vs rfl (by simp) HATD.out HONE.out (by omega) (by unfold maxLen; omega) ?_
  intro v2 w2 ho2 hc2 _
  have hS:Chg [] wD w2:=((Chg.refl [] wD).alloc _).trans hc2 (fun x hx=>.inr (by simp [blk] at hx; omega))
  rw [← HUS.out] at ho2
  obtain ⟨ra,rc,rfl,hrc,hrow⟩:=Row.of_owns ho2 (F:=fun _=>True) (fun _ _=>trivial)
  have HROW:=Lib.hid hrow
  have HCW:=Lib.hid (HCW.out.then hS)
  clear ho2 hc2 hrow x6 x7 x8 x8a hbe
  refine And.intro hS ?_
  clear hS1
  repeat ((with_reducible refine gX ?_); (first | refine wpX_nil ?_ | refine sK ?_ | refine sM fun _ _=>?_ | refine sL fun _ _=>?_ | refine sE fun _ _=>?_); go_wp2_with fail)
  clear hS
  go_loopw [6,85] (fun _ i wr=>∃ (k:Nat) (us2:List Value) (rs2:List Look),i = .int .i64 k∧US.drop k=us2∧k≤US.length∧Kids bc w us2 rs2∧orL rs2=orL rs∧Chg [] w2 wr) (fun _ i _=>US.length - (intOf i).toNat)
  case atStart=>exact ⟨0,US,rs,rfl,rfl,Nat.zero_le _,HKS.out,rfl,Chg.refl _ _⟩
  case round=>
   obtain ⟨k,us2,rs2,rfl,hdr,hkl,hks,htot,hcr⟩:=hrel
   have HCR:=Lib.hid hcr
   by_cases hlt : k < 2 + vs.length
   ·obtain ⟨x,hx⟩ : ∃ x,US[k]?=some x:=⟨US[k]'(by omega),List.getElem?_eq_getElem (by omega)⟩
    have hd2 : us2=x :: US.drop (k + 1):=by
     rw [← hdr,List.drop_eq_getElem_cons (by omega)]
     congr 1
     rw [List.getElem?_eq_getElem (by omega)] at hx
     exact Option.some.inj hx
    rw [hd2] at hks
    obtain ⟨r,rs3,rfl,hkid,hks⟩:=hks
    obtain ⟨rb,ro,rfl,hcell⟩:=HROW.out.at_ (by omega)
    have d0:=hcr.cellSome (hcell k x hx) (by simp)
    have HKS:=Lib.hid hks; have HTOT:=Lib.hid htot
    clear hdr hd2 hks hcell hx htot hcr
    rcases hkid with ⟨rfl,rfl⟩ | ⟨b,rfl,hcall⟩
    ·go_wp2_with fail
     exact ⟨⟨k + 1,_,rs3,by go_num,rfl,by omega,HKS.out,HTOT.out,HCR.out⟩,by simp [intOf]; omega⟩
    ·have HCALL:=Lib.hid (hcall wr (HCW.out.then HCR.out))
     clear hcall
     cases r with
     | none=>
      go_wp2_with fail
      refine HCALL.out.mono ?_; rintro _ w4 ⟨hc4,rfl⟩
      have HC4:=Lib.hid (HCR.out.then hc4)
      clear hc4
      go_wp2_with fail
      exact ⟨⟨k + 1,_,rs3,by go_num,rfl,by omega,HKS.out,HTOT.out,HC4.out⟩,by simp [intOf]; omega⟩
     | some y=>
      obtain ⟨en,q⟩:=y
      go_wp2_with fail
      refine HCALL.out.mono ?_; rintro _ w4 ⟨hc4,b9,rfl,hl9,hb9⟩
      have HC4:=Lib.hid ((HCW.out.then HCR.out).then hc4); have HB9:=Lib.hid hb9; have HL9:=Lib.hid hl9
      have hsz:=(HCW.out.then HCR.out).size
      clear hc4 hb9 hl9
      go_wp2_with fail
      rw [HTG.out,← HTOT.out,orL_cons]
      exact ⟨rfl,HC4.out,b9,rfl,by have:=HL9.out; omega,HB9.out⟩
   ·have hde : us2=[]:=by rw [← hdr]; exact List.drop_eq_nil_of_le (by omega)
    rw [hde] at hks
    have hrs : rs2=[]:=hks
    have HTOT:=Lib.hid (show orL rs=none by rw [← htot,hrs]; rfl)
    clear hdr hde hks hrs htot hcr
    go_wp2_with fail
    refine bodyPost_end (results_none rfl _ _ _) rfl ?_
    rw [HTG.out,HTOT.out]
    exact ⟨HCW.out.then HCR.out,rfl⟩
end Go.Proofs.YtilhhkokdfajiaaGreatDoor
namespace Go.Mq.Check
open Go Go.RowKit Go.Mq Go.Mq.Tree Go.Mq.Sym
def FewE:E→Prop
 | .num _ _=>True
 | .var _ _ _=>True
 | .item _ _ _ i=>FewE i
 | .un _ _ x=>FewE x
 | .bin _ _ x y=>FewE x∧FewE y
 | .app _ _ _ l=>argsN l≤1000∧FewE l
 | .nil=>True
 | .cons x r=>FewE x∧FewE r
def FewS:S→Prop
 | .nil=>True
 | .set _ _ i v r=>(∀ x,i=some x→FewE x)∧FewE v∧FewS r
 | .ifs _ v t e r=>FewE v∧FewS t∧t.len≤1000∧FewS e∧e.len≤1000∧FewS r
 | .whil _ v t r=>FewE v∧FewS t∧t.len≤1000∧FewS r
 | .ret _ v r=>FewE v∧FewS r
 | .wri _ v r=>FewE v∧FewS r
 | .call _ v r=>FewE v∧FewS r
theorem qualK_pos (m n:List UInt8) : 1≤(qualK m n).length:=by
 rw [qualK]; split <;> simp
theorem withinK_le (lv:Nat) (x:E) (K:List (List UInt8)):K.length≤(withinK lv x K).length:=by
 rw [withinK]; split <;> simp; omega
theorem toks_pos {x:E} (h : x.isX) : 1≤(toks x).length:=by
 cases x with
 | num p n=>simp [toks]
 | var p m n=>exact qualK_pos m n
 | item p m n i=>simp [toks]; omega
 | un p op x=>simp [toks]
 | bin p op x y=>simp [toks]; omega
 | app p m n l=>simp [toks]; omega
 | nil=>exact h.elim
 | cons _ _=>exact h.elim
theorem toks_cons (x r:E) : (toks x).length + (toks r).length≤(toks (.cons x r)).length:=by
 cases r <;> simp [toks] <;> omega
theorem toks_more (x:E) {r:E} (_h : r.isL) : (toks x).length + argsN r≤(toks x).length + (toks r).length→1≤(toks x).length→argsN (.cons x r)≤(toks (.cons x r)).length:=by
 intro h1 h2
 have:=toks_cons x r
 simp only [argsN]
 omega
theorem args_le : ∀ {l:E},WF l→l.isL→argsN l≤(toks l).length
 | .nil,_,_=>by simp [argsN]
 | .cons x r,h,_=>by
  have h1:=args_le h.2.1 h.2.2
  exact toks_more x h.2.2 (by omega) (toks_pos h.1.2)
 | .num _ _,_,h=>h.elim
 | .var _ _ _,_,h=>h.elim
 | .item _ _ _ _,_,h=>h.elim
 | .un _ _ _,_,h=>h.elim
 | .bin _ _ _ _,_,h=>h.elim
 | .app _ _ _ _,_,h=>h.elim
theorem few_of {e:E} : WF e→(toks e).length≤1000→FewE e:=by
 induction e with
 | num p n=>exact fun _ _=>trivial
 | var p m n=>exact fun _ _=>trivial
 | item p m n i ih=>exact fun h k=>ih h.2.2.1 (by simp [toks] at k; omega)
 | un p op x ih=>exact fun h k=>ih h.2.1 (by have:=withinK_le 5 x (toks x); simp [toks] at k; omega)
 | bin p op x y ih1 ih2=>
   intro h k
   have h1:=withinK_le (opLevel op) x (toks x); have h2:=withinK_le (opLevel op + 1) y (toks y)
   simp [toks] at k
   exact ⟨ih1 h.2.1.1 (by omega),ih2 h.2.2.1 (by omega)⟩
 | app p m n l ih=>
   intro h k
   simp [toks] at k
   have:=args_le h.2.2.1 h.2.2.2
   exact ⟨by omega,ih h.2.2.1 (by omega)⟩
 | nil=>exact fun _ _=>trivial
 | cons x r ih1 ih2=>
   intro h k
   have:=toks_cons x r
   exact ⟨ih1 h.1.1 (by omega),ih2 h.2.1 (by omega)⟩
theorem indexK_le (x:E) : (toks x).length≤(indexK (some x)).length:=by simp [indexK]; omega
theorem few_stmts {s:S} : ∀ {d:Nat},WFS d s→(stmtK s).length≤1000→FewS s∧s.len≤(stmtK s).length:=by
 induction s with
 | nil=>exact fun _ _=>⟨trivial,by simp [S.len]⟩
 | set p n i v r ih=>
   intro d h k
   simp [stmtK] at k
   obtain ⟨a,b⟩:=ih h.2.2.2 (by omega)
   refine ⟨⟨fun x hx=>?_,few_of h.2.2.1.1.1 (by omega),a⟩,by simp [stmtK,S.len]; omega⟩
   subst hx
   have:=indexK_le x
   exact few_of (h.2.1 x rfl).1.1 (by omega)
 | ifs p v t e r ih1 ih2 ih3=>
   intro d h k
   have ke : (stmtK e).length≤(if e.isNil then [] else [101,108,115,101] :: stmtK e).length:=by
    cases e <;> simp [S.isNil,stmtK] <;> omega
   simp only [stmtK,List.length_cons,List.length_append] at k
   obtain ⟨a,b⟩:=ih1 h.2.1.1.2 (by omega)
   obtain ⟨a2,b2⟩:=ih2 h.2.1.2.2 (by omega)
   obtain ⟨a3,b3⟩:=ih3 h.2.2 (by omega)
   exact ⟨⟨few_of h.1.1.1 (by omega),a,by omega,a2,by omega,a3⟩,by simp only [stmtK,List.length_cons,List.length_append,S.len]; omega⟩
 | whil p v t r ih1 ih2=>
   intro d h k
   simp only [stmtK,List.length_cons,List.length_append] at k
   obtain ⟨a,b⟩:=ih1 h.2.1.2 (by omega)
   obtain ⟨a3,b3⟩:=ih2 h.2.2 (by omega)
   exact ⟨⟨few_of h.1.1.1 (by omega),a,by omega,a3⟩,by simp only [stmtK,List.length_cons,List.length_append,S.len]; omega⟩
 | ret p v r ih=>
   intro d h k
   simp only [stmtK,List.length_cons,List.length_append] at k
   obtain ⟨a,b⟩:=ih h.2 (by omega)
   exact ⟨⟨few_of h.1.1.1 (by omega),a⟩,by simp only [stmtK,List.length_cons,List.length_append,S.len]; omega⟩
 | wri p v r ih=>
   intro d h k
   simp only [stmtK,List.length_cons,List.length_append] at k
   obtain ⟨a,b⟩:=ih h.2 (by omega)
   exact ⟨⟨few_of h.1.1.1 (by omega),a⟩,by simp only [stmtK,List.length_cons,List.length_append,S.len]; omega⟩
 | call p v r ih=>
   intro d h k
   simp only [stmtK,List.length_cons,List.length_append] at k
   obtain ⟨a,b⟩:=ih h.2 (by omega)
   exact ⟨⟨few_of h.1.1.1.1 (by omega),a⟩,by simp only [stmtK,List.length_cons,List.length_append,S.len]; omega⟩
structure FewM (m:Mod):Prop where
 imports : m.imports.length≤1000
 vars : m.vars.length≤1000
 procs : m.procs.length≤1000
 params : ∀ x∈m.procs,x.params.length≤10∧x.vars.length≤10
 bodies : ∀ x∈m.procs,FewS x.body∧x.body.len≤1000
 body:FewS m.body∧m.body.len≤1000
theorem len_mem {α β:Type} {f : α→List β} : ∀ {l:List α} {x : α},x∈l→(f x).length≤(l.flatMap f).length
 | y :: r,x,h=>by
  rw [List.flatMap_cons,List.length_append]
  rcases List.mem_cons.1 h with rfl | h
  ·omega
  ·have:=len_mem (f:=f) h; omega
theorem few_mod {l:List UInt8} {m:Mod} (hl : l.length≤1000) (h : parse l = .ok m):FewM m:=by
 obtain ⟨hw,hk⟩:=parse_sp h
 have hk2 : (m.procs.flatMap procK).length + (stmtK m.body).length≤1000:=by
  simp only [modK,List.length_cons,List.length_append] at hk; omega
 refine ⟨by have:=hw.few; omega,by have:=hw.fewv; omega,by have:=hw.fewp; omega,fun x hx=>?_,fun x hx=>?_,?_⟩
 ·have h1:=(hw.procs x hx).few; have h2:=(hw.procs x hx).room; exact ⟨h1,by omega⟩
 ·have h1:=len_mem (f:=procK) hx
  have h2 : (stmtK x.body).length≤(procK x).length:=by simp only [procK,List.length_cons,List.length_append]; omega
  obtain ⟨a,b⟩:=few_stmts (hw.procs x hx).body (by omega)
  exact ⟨a,by omega⟩
 ·obtain ⟨a,b⟩:=few_stmts hw.body (by omega)
  exact ⟨a,by omega⟩
end Go.Mq.Check
namespace Go.Proofs.YtilhhkokdfajiaaGreatDoor
open Go Go.RowKit Go.Mq Go.Mq.Tree Go.Mq.Sym Go.Mq.Check
set_option maxRecDepth 100000
set_option maxHeartbeats 1000000
def ExOf (c:Env) (F:Nat→Prop) (bc:Nat) (e:E):Prop:=
 (∀ (u:Value) (w:World),EnvAt w F c bc→EAt w F e [u] → ∃ b,u=ptr b∧Calls Tryz.prog 65 #[ptr bc,ptr b] w (Looked [] w (exprL c e))) ∧
 ∀ (us:List Value) (w:World),EnvAt w F c bc→EAt w F e us → ∃ rs,Kids bc w us rs∧orL rs=exprL c e∧us.length=argsN e
theorem ExOf.kid {c:Env} {F:Nat→Prop} {bc:Nat} {e:E} (h:ExOf c F bc e) {u:Value} {w:World} (hE:EnvAt w F c bc) (he:EAt w F e [u]) : ∃ b,u=ptr b∧Kid bc w (ptr b) (exprL c e):=by
 obtain ⟨b,hb,_⟩:=h.1 u w hE he
 subst hb
 refine ⟨b,rfl,.inr ⟨b,rfl,fun w' hc=>?_⟩⟩
 obtain ⟨b',hb',hcall⟩:=h.1 (ptr b) w' (hE.kept hc (by simp)) (he.kept hc (by simp))
 cases hb'
 exact hcall
theorem kid_nil (bc:Nat) (w:World):Kid bc w nilp none:=.inl ⟨rfl,rfl⟩
theorem ExOf.one {c:Env} {F:Nat→Prop} {bc:Nat} {e:E} (hx : e.isX) (h : ∀ (u:Value) (w:World),EnvAt w F c bc→EAt w F e [u] → ∃ b,u=ptr b∧Calls Tryz.prog 65 #[ptr bc,ptr b] w (Looked [] w (exprL c e))):ExOf c F bc e:=by
 refine ⟨h,fun us w hE he=>?_⟩
 have hus : ∃ u,us=[u]:=by
  cases e with
  | num p n=>obtain ⟨b,hb,_⟩:=he; exact ⟨_,hb⟩
  | var p m n=>obtain ⟨b,hb,_⟩:=he; exact ⟨_,hb⟩
  | item p m n i=>obtain ⟨b,_,hb,_⟩:=he; exact ⟨_,hb⟩
  | un p op x=>obtain ⟨b,_,hb,_⟩:=he; exact ⟨_,hb⟩
  | bin p op x y=>obtain ⟨b,_,_,hb,_⟩:=he; exact ⟨_,hb⟩
  | app p m n l=>obtain ⟨b,_,_,_,hb,_⟩:=he; exact ⟨_,hb⟩
  | nil=>exact hx.elim
  | cons _ _=>exact hx.elim
 obtain ⟨u,rfl⟩:=hus
 refine ⟨[exprL c e],⟨_,_,rfl,?_,rfl⟩,by simp [orL],?_⟩
 ·obtain ⟨b,hb,_⟩:=h u w hE he
  subst hb
  refine .inr ⟨b,rfl,fun w' hc=>?_⟩
  obtain ⟨b',hb',hcall⟩:=h (ptr b) w' (hE.kept hc (by simp)) (he.kept hc (by simp))
  cases hb'
  exact hcall
 ·cases e <;> first | rfl | exact hx.elim
theorem expr_all (c:Env) (F:Nat→Prop) (bc:Nat) (e:E):FewE e→ExOf c F bc e:=by
 induction e with
 | num p n=>
  refine fun _=>ExOf.one trivial fun u w hE he=>?_
  obtain ⟨b,hb,_,hblk⟩:=he
  cases hb
  exact ⟨b,rfl,expr_node 1 (by decide) c F bc b p (.int .i64 n) (str []) none none [] [] none 0 [] [none,none] w hblk (fun h=>by simp at h) (by simp) ⟨_,_,rfl,kid_nil bc w,_,_,rfl,kid_nil bc w,rfl⟩ hE⟩
 | var p m n=>
  refine fun _=>ExOf.one trivial fun u w hE he=>?_
  obtain ⟨b,hb,_,hblk⟩:=he
  cases hb
  have:=expr_node 2 (by decide) c F bc b p (.int .i64 0) (str []) none none m n none 0 [] [none,none] w hblk (fun h=>by simp at h) (by simp) ⟨_,_,rfl,kid_nil bc w,_,_,rfl,kid_nil bc w,rfl⟩ hE
  refine ⟨b,rfl,?_⟩
  simpa [headL,orL,exprL] using this
 | item p m n i ih=>
  refine fun hf=>ExOf.one trivial fun u w hE he=>?_
  obtain ⟨b,v,hb,_,hblk,hi⟩:=he
  cases hb
  obtain ⟨bi,rfl,hkid⟩:=(ih hf).kid hE hi
  have:=expr_node 3 (by decide) c F bc b p (.int .i64 0) (str []) (some ⟨bi,0,none⟩) none m n none 0 [] [exprL c i,none] w hblk (fun h=>by simp at h) (by simp) ⟨_,_,rfl,hkid,_,_,rfl,kid_nil bc w,rfl⟩ hE
  refine ⟨b,rfl,?_⟩
  simpa [headL,orL,exprL] using this
 | un p op x ih=>
  refine fun hf=>ExOf.one trivial fun u w hE he=>?_
  obtain ⟨b,v,hb,_,hblk,hi⟩:=he
  cases hb
  obtain ⟨bi,rfl,hkid⟩:=(ih hf).kid hE hi
  have:=expr_node 4 (by decide) c F bc b p (.int .i64 0) (str op) (some ⟨bi,0,none⟩) none [] [] none 0 [] [exprL c x,none] w hblk (fun h=>by simp at h) (by simp) ⟨_,_,rfl,hkid,_,_,rfl,kid_nil bc w,rfl⟩ hE
  refine ⟨b,rfl,?_⟩
  simpa [headL,orL,exprL] using this
 | bin p op x y ih1 ih2=>
  refine fun hf=>ExOf.one trivial fun u w hE he=>?_
  obtain ⟨b,v,v2,hb,_,hblk,hi,hj⟩:=he
  cases hb
  obtain ⟨bi,rfl,hkid⟩:=(ih1 hf.1).kid hE hi
  obtain ⟨bj,rfl,hkjd⟩:=(ih2 hf.2).kid hE hj
  have:=expr_node 5 (by decide) c F bc b p (.int .i64 0) (str op) (some ⟨bi,0,none⟩) (some ⟨bj,0,none⟩) [] [] none 0 [] [exprL c x,exprL c y] w hblk (fun h=>by simp at h) (by simp) ⟨_,_,rfl,hkid,_,_,rfl,hkjd,rfl⟩ hE
  refine ⟨b,rfl,?_⟩
  simpa [headL,orL,exprL] using this
 | app p m n l ih=>
  refine fun hf=>ExOf.one trivial fun u w hE he=>?_
  obtain ⟨b,a,k,vs,hb,_,hblk,_,hrow,hl⟩:=he
  cases hb
  obtain ⟨rs,hks,hor,hlen⟩:=(ih hf.2).2 vs w hE hl
  have hfa:=hf.1
  have:=expr_node 6 (by decide) c F bc b p (.int .i64 0) (str []) none none m n a k vs (none :: none :: rs) w hblk hrow.at_ (by omega) ⟨_,_,rfl,kid_nil bc w,_,_,rfl,kid_nil bc w,hks⟩ hE
  refine ⟨b,rfl,?_⟩
  rw [orL_cons,orL_cons,Option.none_or,Option.none_or,hor,hlen] at this
  exact this
 | nil=>exact fun _=>⟨fun u w _ he=>(by cases (show [u]=[] from he)),fun us w _ he=>⟨[],by rw [show us=[] from he]; rfl,rfl,by rw [show us=[] from he]; rfl⟩⟩
 | cons x r ih1 ih2=>
  refine fun hf=>⟨fun u w hE he=>?_,fun us w hE he=>?_⟩
  ·obtain ⟨v,vs,hv,h1,h2⟩:=he
   simp only [List.cons.injEq] at hv
   obtain ⟨rfl,rfl⟩:=hv
   obtain ⟨rs,hks,hor,_⟩:=(ih2 hf.2).2 [] w hE h2
   have hrs : rs=[]:=hks
   subst hrs
   obtain ⟨b,hb,hcall⟩:=(ih1 hf.1).1 u w hE h1
   refine ⟨b,hb,?_⟩
   rw [exprL,← hor,show orL []=none from rfl,Option.or_none]
   exact hcall
  ·obtain ⟨v,vs,rfl,h1,h2⟩:=he
   obtain ⟨rs,hks,hor,hlen⟩:=(ih2 hf.2).2 vs w hE h2
   obtain ⟨b,rfl,hkid⟩:=(ih1 hf.1).kid hE h1
   exact ⟨exprL c x :: rs,⟨_,_,rfl,hkid,hks⟩,by rw [orL_cons,hor,exprL],by simp [argsN,hlen]⟩
end Go.Proofs.YtilhhkokdfajiaaGreatDoor
