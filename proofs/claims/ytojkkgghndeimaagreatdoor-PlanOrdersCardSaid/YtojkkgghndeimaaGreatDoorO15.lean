/- Some texts in one. -/
import Derived.MapKept
import Derived.Maps.RangeWalk
import Derived.Test.YtojkkgghndeimaaGreatDoorO1
import Derived.Test.YtojkkgghndeimaaGreatDoorO9
import Derived.Test.YtojkkgghndeimaaGreatDoorO14
namespace Go.Mq.Plan
open Go Go.RowKit Go.Mq Go.Mq.Tree
abbrev Nm:=List UInt8
def may (there:Nm→Bool) (imp:Nm→List Nm) (out:List Nm) (n:Nm):Bool:=!decide (n∈out) && !((imp n).any fun i=>there i && !decide (i∈out))
def orderL (names:List Nm) (there:Nm→Bool) (imp:Nm→List Nm):Nat→List Nm→Option (List Nm)
 | 0,out=>some out
 | f + 1,out=>match names.find? (may there imp out) with
  | none=>none
  | some n=>orderL names there imp f (out ++ [n])
theorem may_true {there:Nm→Bool} {imp:Nm→List Nm} {out:List Nm} {n:Nm} (h : may there imp out n=true) : n∉out ∧ ∀ i∈imp n,there i=true→i∈out:=by
 simp only [may,Bool.and_eq_true,Bool.not_eq_true',decide_eq_false_iff_not,List.any_eq_false] at h
 refine ⟨h.1,fun i hi ht=>?_⟩
 have:=h.2 i hi
 exact Classical.byContradiction fun hc=>this (by simp [ht,hc])
theorem order_some {names:List Nm} {there:Nm→Bool} {imp:Nm→List Nm} : ∀ {f:Nat} {out o:List Nm},orderL names there imp f out=some o→o.length=out.length + f∧o.take out.length=out ∧
  ∀ i n,out.length≤i→o[i]?=some n→n∈names∧n∉o.take i ∧ ∀ j∈imp n,there j=true→j∈o.take i
 | 0,out,o,h=>by
  cases h
  exact ⟨rfl,by simp,fun i n hi hn=>by have:=(List.getElem?_eq_some_iff.1 hn).1; omega⟩
 | f + 1,out,o,h=>by
  rw [orderL] at h
  split at h
  ·cases h
  ·next x hx=>
   obtain ⟨h1,h2,h3⟩:=order_some h
   have hl : (out ++ [x]).length=out.length + 1:=by simp
   rw [hl] at h1 h2 h3
   have ht : o.take out.length=out:=by
    have:=congrArg (List.take out.length) h2
    rw [List.take_take,Nat.min_eq_left (by omega)] at this
    rw [this]; simp
   have hx0 : o[out.length]?=some x:=by
    have:=congrArg (fun l=>l[out.length]?) h2
    simp only [List.getElem?_take_of_lt (Nat.lt_succ_self _)] at this
    rw [this]; simp
   refine ⟨by omega,ht,fun i n hi hn=>?_⟩
   by_cases he : i=out.length
   ·subst he
    rw [hx0] at hn
    cases hn
    have hm:=List.find?_some hx
    obtain ⟨m1,m2⟩:=may_true hm
    rw [ht]
    exact ⟨List.mem_of_find?_eq_some hx,m1,m2⟩
   ·exact h3 i n (by omega) hn
end Go.Mq.Plan
namespace Go.Mq.Plan
open Go Go.RowKit Go.Mq Go.Mq.Tree Go.MapKept
theorem str_inj {a b:List UInt8} (h : str a=str b) : a=b:=by
 have h1 : bs a=bs b:=by simpa [str] using h
 have:=congrArg (fun x=>x.data.toList) h1
 simpa [bs] using this
def MapIs (w:World) (b:Nat) (es:List (List UInt8 × Value)):Prop:=∃ arr clock,w.heap[b]?=some (.map arr clock)∧arr.toList.map (fun e=>(e.key,e.val))=(es.map fun p=>(str p.1,p.2))∧Stamped arr clock
def getM:List (List UInt8 × Value)→List UInt8→Option Value
 | [],_=>none
 | (k,u) :: r,n=>if k=n then some u else getM r n
def putM:List (List UInt8 × Value)→List UInt8→Value→List (List UInt8 × Value)
 | [],n,v=>[(n,v)]
 | (k,u) :: r,n,v=>if k=n then (k,v) :: r else (k,u) :: putM r n v
def idxM:List (List UInt8 × Value)→List UInt8→Nat→Option (Nat × Value)
 | [],_,_=>none
 | (k,u) :: r,n,i=>if k=n then some (i,u) else idxM r n (i + 1)
theorem getM_put : ∀ (es:List (List UInt8 × Value)) (n:List UInt8) (v:Value) (x:List UInt8),getM (putM es n v) x=if n=x then some v else getM es x
 | [],n,v,x=>rfl
 | (k,u) :: r,n,v,x=>by
  rw [putM]
  by_cases hk : k=n
  ·subst hk
   rw [if_pos rfl,getM,getM]
   split <;> rfl
  ·rw [if_neg hk,getM,getM,getM_put r]
   by_cases hx : k=x
   ·subst hx; rw [if_pos rfl,if_pos rfl,if_neg (Ne.symm hk)]
   ·rw [if_neg hx,if_neg hx]
theorem idxM_get : ∀ (es:List (List UInt8 × Value)) (n:List UInt8) (i:Nat),(idxM es n i).map (·.2)=getM es n
 | [],_,_=>rfl
 | (k,u) :: r,n,i=>by
  rw [idxM,getM]
  split
  ·rfl
  ·exact idxM_get r n (i + 1)
theorem findNow_is {n:List UInt8} : ∀ {l:List MapEntry} {es:List (List UInt8 × Value)} {i:Nat},l.map (fun e=>(e.key,e.val))=es.map (fun p=>(str p.1,p.2))→Instr.findNow .string (str n) l i=some (idxM es n i)
 | [],[],i,_=>rfl
 | [],_ :: _,_,h=>by simp at h
 | _ :: _,[],_,h=>by simp at h
 | e :: l,(k,u) :: es,i,h=>by
  simp only [List.map_cons,List.cons.injEq,Prod.mk.injEq] at h
  obtain ⟨⟨h1,h2⟩,h3⟩:=h
  have hs:Instr.sameNow .string (str n) e.key=some (n == k):=by
   rw [h1]
   show some (bs n == bs k)=_
   rw [bs_beq]
  rw [Instr.findNow,hs,idxM]
  by_cases hk : k=n
  ·subst hk; simp [h2]
  ·have : (n == k)=false:=by simpa using fun h=>hk h.symm
   rw [this,if_neg hk]; exact findNow_is h3
theorem idxM_none : ∀ {es:List (List UInt8 × Value)} {n:List UInt8} {i:Nat} {v:Value},idxM es n i=none→putM es n v=es ++ [(n,v)]
 | [],_,_,_,_=>rfl
 | (k,u) :: r,n,i,v,h=>by
  rw [idxM] at h
  split at h
  ·cases h
  ·next hk=>rw [putM,if_neg hk,idxM_none h]; rfl
theorem idxM_some : ∀ {es:List (List UInt8 × Value)} {n:List UInt8} {i j:Nat} {u v:Value},idxM es n i=some (j,u)→i≤j∧es[j - i]?=some (n,u)∧putM es n v=es.modify (j - i) fun p=>(p.1,v)
 | [],_,_,_,_,_,h=>by cases h
 | (k,u) :: r,n,i,j,u',v,h=>by
  rw [idxM] at h
  split at h
  ·next hk=>cases h; subst hk; simp [putM]
  ·next hk=>
   obtain ⟨h1,h2,h3⟩:=idxM_some (v:=v) h
   obtain ⟨d,rfl⟩ : ∃ d,j=i + 1 + d:=⟨j - (i + 1),by omega⟩
   rw [show i + 1 + d - (i + 1)=d by omega] at h2 h3
   rw [show i + 1 + d - i=d + 1 by omega,putM,if_neg hk,h3]
   exact ⟨by omega,by simpa using h2,by simp⟩
theorem idxM_none_key {n:List UInt8} : ∀ {l:List MapEntry} {es:List (List UInt8 × Value)} {i:Nat},l.map (fun e=>(e.key,e.val))=es.map (fun p=>(str p.1,p.2))→idxM es n i=none → ∀ x∈l,x.key≠str n
 | [],_,_,_,_=>by simp
 | _ :: _,[],_,h,_=>by simp at h
 | e :: l,(k,u) :: es,i,h,hi=>by
  simp only [List.map_cons,List.cons.injEq,Prod.mk.injEq] at h
  obtain ⟨⟨h1,_⟩,h3⟩:=h
  rw [idxM] at hi
  split at hi
  ·cases hi
  ·next hk=>
   intro x hx
   rcases List.mem_cons.1 hx with rfl | hx
   ·rw [h1]
    intro he
    exact hk (str_inj he)
   ·exact idxM_none_key h3 hi x hx
theorem MapIs.kept {S:List Nat} {w w':World} {b:Nat} {es:List (List UInt8 × Value)} (h:MapIs w b es) (hc:Chg S w w') (hn : b∉S):MapIs w' b es:=by
 obtain ⟨arr,clock,hb,he,hst⟩:=h
 exact ⟨arr,clock,by rw [hc.block b (Array.getElem?_eq_some_iff.1 hb).1 hn]; exact hb,he,hst⟩
theorem MapIs.lt {w:World} {b:Nat} {es:List (List UInt8 × Value)} (h:MapIs w b es) : b < w.heap.size:=by
 obtain ⟨arr,clock,hb,he,hst⟩:=h
 exact (Array.getElem?_eq_some_iff.1 hb).1
theorem MapIs.made (w:World):MapIs (w.alloc (.map #[] 0)) w.heap.size []:=⟨#[],0,heap_alloc_new w _,rfl,stamped_empty 0⟩
section
variable {P:Program} {T K E:TypeId} {w:World} {b:Nat} {es:List (List UInt8 × Value)} {z:Value}
theorem run_getM (hT:P.underlying T=some (.map K E)) (hK:P.underlying K=some .string) (hz : (zeroValue E).run P w = .ok z w) (h:MapIs w b es) (n:List UInt8) :
  (Instr.lookup T (.map (some b)) (str n) false).run P w = .ok ((getM es n).getD z) w:=by
 obtain ⟨arr,clock,hb,he,hst⟩:=h
 have hf:=findNow_is (n:=n) (i:=0) he
 rw [← idxM_get es n 0]
 cases hi : idxM es n 0 with
 | none=>rw [hi] at hf; simp [Instr.lookup,run_underlying hT,Go.MapKept.run_getObj_map hb,Go.MapKept.run_checkKey (d:=.string) (k:=str n) hK trivial,Go.MapKept.run_findKey hK hf,hz,Result.andThen]
 | some p=>obtain ⟨i,u⟩:=p; rw [hi] at hf; simp [Instr.lookup,run_underlying hT,Go.MapKept.run_getObj_map hb,Go.MapKept.run_checkKey (d:=.string) (k:=str n) hK trivial,Go.MapKept.run_findKey hK hf,Result.andThen]
theorem run_getMok (hT:P.underlying T=some (.map K E)) (hK:P.underlying K=some .string) (hz : (zeroValue E).run P w = .ok z w) (h:MapIs w b es) (n:List UInt8) :
  (Instr.lookup T (.map (some b)) (str n) true).run P w = .ok (.tuple #[(getM es n).getD z,.bool (getM es n).isSome]) w:=by
 obtain ⟨arr,clock,hb,he,hst⟩:=h
 have hf:=findNow_is (n:=n) (i:=0) he
 rw [← idxM_get es n 0]
 cases hi : idxM es n 0 with
 | none=>rw [hi] at hf; simp [Instr.lookup,run_underlying hT,Go.MapKept.run_getObj_map hb,Go.MapKept.run_checkKey (d:=.string) (k:=str n) hK trivial,Go.MapKept.run_findKey hK hf,hz,Result.andThen]
 | some p=>obtain ⟨i,u⟩:=p; rw [hi] at hf; simp [Instr.lookup,run_underlying hT,Go.MapKept.run_getObj_map hb,Go.MapKept.run_checkKey (d:=.string) (k:=str n) hK trivial,Go.MapKept.run_findKey hK hf,Result.andThen]
theorem run_getNok (hT:P.underlying T=some (.map K E)) (hK:P.underlying K=some .string) (hz : (zeroValue E).run P w = .ok z w) (n:List UInt8) (ok:Bool) :
  (Instr.lookup T (.map none) (str n) ok).run P w = .ok (if ok then .tuple #[z,.bool false] else z) w:=by
 have hf:Instr.findNow .string (str n) [] 0=some none:=rfl
 cases ok <;> simp [Instr.lookup,run_underlying hT,Go.MapKept.run_checkKey (d:=.string) (k:=str n) hK trivial,Go.MapKept.run_findKey hK hf,hz,Result.andThen]
theorem run_putM (hT:P.underlying T=some (.map K E)) (hK:P.underlying K=some .string) (h:MapIs w b es) (n:List UInt8) (v:Value) :
  ∃ w',(Instr.mapUpdate T (.map (some b)) (str n) v).run P w = .ok () w'∧MapIs w' b (putM es n v)∧Chg [b] w w':=by
 obtain ⟨arr,clock,hb,he,hst⟩:=h
 have hlt:=(Array.getElem?_eq_some_iff.1 hb).1
 have hf:=findNow_is (n:=n) (i:=0) he
 have hck : ∀ o:Obj,Chg [b] w { w with heap:=w.heap.setIfInBounds b o }:=fun o=>⟨rfl,rfl,rfl,by simp,fun k _ hk=>by
  show (w.heap.setIfInBounds b _)[k]?=_
  rw [Array.getElem?_setIfInBounds_ne (fun e=>hk (by simp [e]))]⟩
 cases hi : idxM es n 0 with
 | none=>
  rw [hi] at hf
  refine ⟨{ w with heap:=w.heap.setIfInBounds b (.map (arr.push { key:=str n,val:=v,born:=clock }) (clock + 1)) },by simp [Instr.mapUpdate,run_underlying hT,Go.MapKept.run_getObj_map hb,Go.MapKept.run_checkKey (d:=.string) (k:=str n) hK trivial,Go.MapKept.run_findKey hK hf,Go.MapKept.run_setObj_map _ hb,Result.andThen],⟨arr.push { key:=str n,val:=v,born:=clock },clock + 1,by simp [hlt],?_,stamped_push hst (idxM_none_key he hi)⟩,hck _⟩
  rw [idxM_none hi]
  simp [he]
 | some p=>
  obtain ⟨j,u⟩:=p
  rw [hi] at hf
  obtain ⟨_,h2,h3⟩:=idxM_some (v:=v) hi
  rw [Nat.sub_zero] at h2 h3
  have hj : ∃ e,arr[j]?=some e∧e.key=str n:=by
   have:=congrArg (fun l=>l[j]?) he
   simp only [List.getElem?_map,h2,Option.map_some] at this
   cases ha : arr.toList[j]? with
   | none=>rw [ha] at this; simp at this
   | some e=>rw [ha] at this; simp at this; exact ⟨e,by simpa using ha,this.1⟩
  obtain ⟨e,hj,hk⟩:=hj
  refine ⟨{ w with heap:=w.heap.setIfInBounds b (.map (arr.modify j fun e=>{ e with key:=str n,val:=v }) clock) },by simp [Instr.mapUpdate,run_underlying hT,Go.MapKept.run_getObj_map hb,Go.MapKept.run_checkKey (d:=.string) (k:=str n) hK trivial,Go.MapKept.run_findKey hK hf,hj,hk,Go.MapKept.run_keyThatStays (d:=.string) (k:=str n) trivial,Go.MapKept.run_setObj_map _ hb,Result.andThen],⟨arr.modify j fun e=>{ e with key:=str n,val:=v },clock,by simp [hlt],?_,stamped_modify hst _ _ (fun _ _=>rfl) (fun e' _ he'=>by rw [hj] at he'; cases he'; exact hk.symm)⟩,hck _⟩
  rw [h3]
  apply List.ext_getElem?
  intro i
  have hi':=congrArg (fun l=>l[i]?) he
  simp only [List.getElem?_map] at hi'
  simp only [List.getElem?_map,Array.toList_modify,List.getElem?_modify]
  by_cases hij : j=i
  ·subst hij
   rw [h2]
   have : arr.toList[j]?=some e:=by simpa using hj
   rw [this]
   simp
  ·simp only [if_neg hij]
   cases ha : arr.toList[i]? <;> cases hb' : es[i]? <;> simp_all
end
def HadIs (w:World) (b:Nat) (had:List (List UInt8)):Prop:=∃ es,MapIs w b es ∧ ∀ n,getM es n=if n∈had then some (.bool true) else none
theorem HadIs.kept {S:List Nat} {w w':World} {b:Nat} {had:List (List UInt8)} (h:HadIs w b had) (hc:Chg S w w') (hn : b∉S):HadIs w' b had:=by
 obtain ⟨es,h1,h2⟩:=h
 exact ⟨es,h1.kept hc hn,h2⟩
theorem HadIs.made (w:World):HadIs (w.alloc (.map #[] 0)) w.heap.size []:=⟨[],MapIs.made w,fun n=>by simp [getM]⟩
end Go.Mq.Plan
namespace Go.Mq.Plan
open Go Go.RowKit Go.Mq Go.Mq.Tree Go.MapKept
open Go.ChangeMaps (setBlock)
def Ranging (w:World) (b r:Nat) (es:List (List UInt8 × Value)) (rest:List Nm):Prop:=∃ arr clock since seen c0,w.heap[b]?=some (.map arr clock)∧arr.toList.map (fun e=>(e.key,e.val))=(es.map fun p=>(str p.1,p.2))∧Stamped arr clock ∧
 w.heap[r]?=some (.mapIter (some b) since seen c0)∧(∀ x∈arr.toList,x.born < since)∧since≤c0∧since≤clock∧(leftOf arr seen).toList.map (·.key)=rest.map str
theorem Ranging.left_eq {w:World} {b r:Nat} {es:List (List UInt8 × Value)} {rest:List Nm} (h:Ranging w b r es rest) : w.rangeLeft b r=rest.length:=by
 obtain ⟨arr,clock,since,seen,c0,hb,_,_,hr,_,_,_,hl⟩:=h
 have:=congrArg List.length hl
 simp only [List.length_map,Array.length_toList] at this
 simp only [World.rangeLeft,hb,hr]
 exact this
theorem Ranging.map {w:World} {b r:Nat} {es:List (List UInt8 × Value)} {rest:List Nm} (h:Ranging w b r es rest):MapIs w b es:=by
 obtain ⟨arr,clock,since,seen,c0,hb,he,hst,_⟩:=h
 exact ⟨arr,clock,hb,he,hst⟩
theorem Ranging.lt {w:World} {b r:Nat} {es:List (List UInt8 × Value)} {rest:List Nm} (h:Ranging w b r es rest) : r < w.heap.size:=by
 obtain ⟨arr,clock,since,seen,c0,_,_,_,hr,_⟩:=h
 exact (Array.getElem?_eq_some_iff.1 hr).1
theorem Ranging.kept {S:List Nat} {w w':World} {b r:Nat} {es:List (List UInt8 × Value)} {rest:List Nm} (h:Ranging w b r es rest) (hc:Chg S w w') (hb : b∉S) (hr : r∉S):Ranging w' b r es rest:=by
 obtain ⟨arr,clock,since,seen,c0,h1,h2,h3,h4,h5⟩:=h
 exact ⟨arr,clock,since,seen,c0,by rw [hc.block b (Array.getElem?_eq_some_iff.1 h1).1 hb]; exact h1,h2,h3,by rw [hc.block r (Array.getElem?_eq_some_iff.1 h4).1 hr]; exact h4,h5⟩
theorem entry_name {l:List MapEntry} {es:List (List UInt8 × Value)} (he : l.map (fun e=>(e.key,e.val))=es.map fun p=>(str p.1,p.2)) (hk : (l.map (·.key)).Nodup) {e:MapEntry} (hm : e∈l) : ∃ n,e.key=str n∧getM es n=some e.val∧n∈es.map (·.1):=by
 induction l generalizing es with
 | nil=>cases hm
 | cons x r ih=>
  cases es with
  | nil=>simp at he
  | cons p es=>
   obtain ⟨k,u⟩:=p
   simp only [List.map_cons,List.cons.injEq,Prod.mk.injEq] at he
   obtain ⟨⟨h1,h2⟩,h3⟩:=he
   rw [List.map_cons,List.nodup_cons] at hk
   rcases List.mem_cons.1 hm with rfl | hm
   ·exact ⟨k,h1,by rw [getM,if_pos rfl,h2],by simp⟩
   ·obtain ⟨n,a1,a2,a3⟩:=ih h3 hk.2 hm
    refine ⟨n,a1,?_,by simp at a3 ⊢; exact .inr a3⟩
    rw [getM,if_neg ?_]
    ·exact a2
    ·intro hkn
     refine hk.1 ?_
     rw [h1,hkn,← a1]
     exact List.mem_map_of_mem hm
section
variable {P:Program} {w:World} {b r:Nat} {es:List (List UInt8 × Value)} {rest:List Nm}
theorem map_range {t k e:TypeId} (ht:P.underlying t=some (.map k e)) (h:MapIs w b es) : ∃ w',(Instr.range t (.map (some b))).run P w = .ok (.pointer (some ⟨w.heap.size,0,none⟩)) w'∧Ranging w' b w.heap.size es (es.map (·.1))∧Chg [] w w'∧w'.heap.size=w.heap.size + 1:=by
 have hlt:=h.lt
 obtain ⟨arr,clock,hb,he,hst⟩:=h
 refine ⟨_,run_range_map w t k e b arr clock ht hb,⟨arr,clock,clock,#[],clock,((MapKept.heap_alloc w _).2 b hlt).trans hb,he,hst,(MapKept.heap_alloc w _).1,hst.1,Nat.le_refl _,Nat.le_refl _,?_⟩,(Chg.refl [] w).alloc _,by simp⟩
 have:=congrArg (List.map (·.1)) he
 simp only [List.map_map,Function.comp_def] at this
 rw [show leftOf arr #[]=arr from Array.filter_eq_self.2 (by simp)]
 simpa [List.map_map,Function.comp_def] using this
theorem map_next (h:Ranging w b r es rest) (hne : r≠b) (ty:TypeId) : (rest=[]∧(Instr.next (.pointer (some ⟨r,0,none⟩)) false ty).run P w = .ok (.tuple #[.bool false]) w) ∨
  ∃ n v rest' w',n∈rest∧n∈es.map (·.1)∧getM es n=some v∧(∀ x,x∈rest→x≠n→x∈rest')∧rest'.length < rest.length∧(Instr.next (.pointer (some ⟨r,0,none⟩)) false ty).run P w = .ok (.tuple #[.bool true,str n,v]) w'∧Ranging w' b r es rest'∧Chg [r] w w' ∧
   (Instr.entry (.pointer (some ⟨r,0,none⟩))).run P w' = .ok (.tuple #[str n,v]) w':=by
 obtain ⟨arr,clock,since,seen,c0,hb,he,hst,hr,hold,hsc,hsk,hl⟩:=h
 rcases run_next_at (P:=P) w ty r b since c0 seen arr clock hr hb hold hsc with ⟨h0,hrun⟩ | ⟨e,hel,w1,hal,hrun⟩
 ·refine .inl ⟨?_,hrun⟩
  have:=congrArg List.length hl
  simp only [List.length_map,Array.length_toList,h0] at this
  exact List.eq_nil_of_length_eq_zero this.symm
 ·obtain ⟨hem,hes⟩:=mem_left hel
  obtain ⟨n,hn,hg,hnk⟩:=entry_name he hst.2.2 hem
  have hr1 : w1.heap[r]?=some (.mapIter (some b) since seen c0):=by rcases hal with rfl | rfl <;> exact hr
  have hb1 : w1.heap[b]?=some (.map arr clock):=by rcases hal with rfl | rfl <;> exact hb
  have hset:=heap_set (o':=.mapIter (some b) since (seen.push e.born) clock) hr1
  have hb' : (setBlock w1 r (.mapIter (some b) since (seen.push e.born) clock)).heap[b]?=some (.map arr clock):=(hset.2 b (fun e1=>hne e1.symm)).trans hb1
  have hnames : ∀ x∈(leftOf arr (seen.push e.born)).toList,∃ k,x.key=str k:=fun x hx=>by
   obtain ⟨hxm,_⟩:=mem_left hx
   obtain ⟨k,hk,_⟩:=entry_name he hst.2.2 hxm
   exact ⟨k,hk⟩
  obtain ⟨rest',hrest⟩ : ∃ rest':List Nm,(leftOf arr (seen.push e.born)).toList.map (·.key)=rest'.map str:=by
   generalize (leftOf arr (seen.push e.born)).toList=L at hnames
   induction L with
   | nil=>exact ⟨[],rfl⟩
   | cons x l ih=>
    obtain ⟨k,hk⟩:=hnames x (by simp)
    obtain ⟨r',hr'⟩:=ih (fun y hy=>hnames y (by simp [hy]))
    exact ⟨k :: r',by simp [hk,hr']⟩
  have hlen : rest'.length < rest.length:=by
   have h1:=congrArg List.length hrest
   have h2:=congrArg List.length hl
   have h3:=left_shrinks arr seen e hel
   simp only [List.length_map,Array.length_toList] at h1 h2
   omega
  refine .inr ⟨n,e.val,rest',_,?_,hnk,hg,fun x hx hxn=>?_,hlen,by rw [← hn]; exact hrun,⟨arr,clock,since,seen.push e.born,clock,hb',he,hst,hset.1,hold,hsk,hsk,hrest⟩,?_,by rw [← hn]; exact run_entry_at _ r b since seen arr clock e hset.1 hb' hem hst.2.1⟩
  ·have : e.key∈rest.map str:=by rw [← hl]; exact List.mem_map_of_mem hel
   rw [hn] at this
   obtain ⟨y,hy,hye⟩:=List.mem_map.1 this
   rw [← str_inj hye]; exact hy
  ·have : str x∈(leftOf arr seen).toList.map (·.key):=by rw [hl]; exact List.mem_map_of_mem hx
   obtain ⟨y,hy,hye⟩:=List.mem_map.1 this
   obtain ⟨hym,hys⟩:=mem_left hy
   have hyb : y.born≠e.born:=fun hbe=>by
    have : y=e:=born_inj hst.2.1 hym hem hbe
    rw [this,hn] at hye
    exact hxn (str_inj hye).symm
   have hy' : y∈(leftOf arr (seen.push e.born)).toList:=by
    simp only [leftOf,Array.toList_filter,List.mem_filter,contains_push]
    refine ⟨hym,?_⟩
    rw [hys]
    simp [hyb]
   have : y.key∈rest'.map str:=by rw [← hrest]; exact List.mem_map_of_mem hy'
   rw [hye] at this
   obtain ⟨z,hz,hze⟩:=List.mem_map.1 this
   rw [← str_inj hze]; exact hz
  ·rcases hal with rfl | rfl
   ·exact ⟨rfl,rfl,rfl,by simp [setBlock],fun i _ hi=>hset.2 i (fun e1=>hi (by simp [e1]))⟩
   ·exact ⟨rfl,rfl,rfl,by simp [setBlock],fun i _ hi=>hset.2 i (fun e1=>hi (by simp [e1]))⟩
end
end Go.Mq.Plan
namespace Go.Mq.Plan
open Go Go.RowKit Go.Mq Go.Mq.Tree
theorem names_cell {w:World} {F:Nat→Prop} {a:Option Addr} {l:List (List UInt8)} (h:Row w F a (l.map str)) {k:Nat} {n:List UInt8} (hk : l[k]?=some n) : ∃ b o,a=some ⟨b,o,none⟩∧w.cell? ⟨b,o + k,none⟩=some (str n):=by
 obtain ⟨b,o,rfl,hc⟩:=h.at_ (by have:=(List.getElem?_eq_some_iff.1 hk).1; simp; omega)
 exact ⟨b,o,rfl,hc k (str n) (by rw [List.getElem?_map,hk]; rfl)⟩
theorem split_at {α:Type} {l:List α} {k:Nat} {x : α} (h : l[k]?=some x) : l=l.take k ++ x :: l.drop (k + 1)∧(l.take k).length=k:=by
 obtain ⟨hk,he⟩:=List.getElem?_eq_some_iff.1 h
 refine ⟨?_,by simp; omega⟩
 rw [← he,← List.drop_eq_getElem_cons hk,List.take_append_drop]
theorem find_at {α:Type} {f : α→Bool} {l:List α} {k:Nat} {x : α} (hk : l[k]?=some x) (hx : f x=true) (hb : ∀ (i:Nat) (y : α),i < k→l[i]?=some y→f y=false) : l.find? f=some x:=by
 obtain ⟨h1,h2⟩:=split_at hk
 rw [h1,List.find?_append]
 have : (l.take k).find? f=none:=List.find?_eq_none.2 fun y hy=>by
  obtain ⟨i,hi⟩:=List.getElem?_of_mem hy
  have hik : i < k:=by have:=(List.getElem?_eq_some_iff.1 hi).1; omega
  rw [List.getElem?_take_of_lt hik] at hi
  rw [hb i y hik hi]; simp
 rw [this]
 simp [hx]
theorem find_no {α:Type} {f : α→Bool} {l:List α} (hb : ∀ (i:Nat) (y : α),l[i]?=some y→f y=false) : l.find? f=none:=List.find?_eq_none.2 fun y hy=>by
 obtain ⟨i,hi⟩:=List.getElem?_of_mem hy
 rw [hb i y hi]; simp
end Go.Mq.Plan
namespace Go.Proofs.YtojkkgghndeimaaGreatDoor
open Go Go.RowKit Go.Mq Go.Mq.Tree Go.Mq.Plan
set_option maxRecDepth 100000
set_option maxHeartbeats 2000000
theorem zero_bool (w:World) : (zeroValue 4).run Tryz.prog w = .ok (.bool false) w:=by kernel_rfl
theorem infoStrC : (Tryz.prog.info? 9).map (fun i=>(i.zero,i.size,i.bytes))=some (some (.string ⟨#[]⟩),1,16):=by kernel_rfl
theorem strs_one (l:List (List UInt8)) : ∀ u∈l.map str,u.oneCell'=true:=by
 intro u hu
 obtain ⟨x,_,rfl⟩:=List.mem_map.1 hu
 rfl
theorem indexs_in (l:List (List UInt8)) (hl : l.length≤1000) (n:List UInt8) (F:Nat→Prop) (v:Value) (w:World) (h:NamesAt w F l v) :
  Calls Tryz.prog 113 #[v,str n] w (fun e w'=>∃ r:Int,e = .returned (.int .i64 r) ∧ -1≤r∧r≤1000∧decide (0≤r)=decide (n∈l)∧w'=w):=by
 obtain ⟨a,c,rfl,hac,hrow⟩:=h
 have HROW:=Lib.hid hrow
 clear hrow
 go_enter Tryz.func113,Tryz.ntmps113
 go_wp2_with fail
 go_loopw [5,8] (fun _ i wr=>∃ k:Nat,i = .int .i64 k∧k≤l.length∧w=wr ∧ ∀ (i:Nat) (x:List UInt8),i < k→l[i]?=some x→x≠n) (fun _ i _=>l.length - (intOf i).toNat)
 case atStart=>exact ⟨0,rfl,Nat.zero_le _,rfl,fun i x hi=>by omega⟩
 case round=>
  obtain ⟨k,rfl,hk,rfl,hno⟩:=hrel
  have HNO:=Lib.hid hno
  clear hno
  by_cases hlt : k < l.length
  ·obtain ⟨x,hs⟩ : ∃ x,l[k]?=some x:=⟨l[k],List.getElem?_eq_getElem hlt⟩
   obtain ⟨b,o,rfl,d0⟩:=names_cell HROW.out hs
   have HS:=Lib.hid hs
   clear hs
   cases hq : (n == x) with
   | true=>
    have HIN:=Lib.hid (show n∈l by
     have : n=x:=by simpa using hq
     rw [this]; exact List.mem_of_getElem? HS.out)
    go_wp2_with fail
    go_ret
    exact ⟨k,rfl,by omega,by omega,by simp [HIN.out],rfl⟩
   | false=>
    have HN:=Lib.hid (show x≠n by intro h; subst h; simp at hq)
    go_wp2_with fail
    refine ⟨⟨k + 1,by go_num,by omega,by first | rfl | trivial,fun i y hi hx=>?_⟩,by simp [intOf]; omega⟩
    by_cases he : i < k
    ·exact HNO.out i y he hx
    ·have : i=k:=by omega
     subst this
     rw [HS.out] at hx
     cases hx
     exact HN.out
  ·have hall : n∉l:=fun hn=>by
    obtain ⟨i,hi⟩:=List.getElem?_of_mem hn
    exact HNO.out i n (by have:=(List.getElem?_eq_some_iff.1 hi).1; omega) hi rfl
   have HA:=Lib.hid hall
   clear hall
   go_wp2_with fail
   go_ret
   exact ⟨-1,rfl,by omega,by omega,by simp [HA.out],rfl⟩
theorem contains_in (l:List (List UInt8)) (hl : l.length≤1000) (n:List UInt8) (F:Nat→Prop) (v:Value) (w:World) (h:NamesAt w F l v) :
  Calls Tryz.prog 58 #[v,str n] w (fun e w'=>e = .returned (.bool (decide (n∈l)))∧w'=w):=by
 have HI:=Lib.hid (indexs_in l hl n F v w h)
 clear h
 go_enter Tryz.func58,Tryz.ntmps58
 go_wp2_with fail
 refine HI.out.mono ?_; rintro _ w1 ⟨r,rfl,h0,h1,hq,hw⟩
 have HQ:=Lib.hid hq; have HW:=Lib.hid hw
 clear hq hw
 go_wp2_with fail
 go_ret
 exact ⟨by rw [← HQ.out]; simp,HW.out⟩
end Go.Proofs.YtojkkgghndeimaaGreatDoor
namespace Go.Mq.Plan
open Go Go.RowKit Go.Mq Go.Mq.Tree
def ModsAt (w:World) (b:Nat) (G:Nat→Prop) (mf:Nm→Option Mod) (es:List (List UInt8 × Value)):Prop:=MapIs w b es∧es.length≤1000∧(∀ p∈es,p.1.length≤1000) ∧ ∀ n,match mf n with
  | none=>getM es n=none
  | some m=>m.imports.length≤1000 ∧ ∃ v,getM es n=some v∧ModAt w G m v
theorem ModsAt.kept {S:List Nat} {w w':World} {b:Nat} {G:Nat→Prop} {mf:Nm→Option Mod} {es:List (List UInt8 × Value)} (h:ModsAt w b G mf es) (hc:Chg S w w') (hn : b∉S) (hS : ∀ x∈S,¬ G x):ModsAt w' b G mf es:=by
 obtain ⟨h1,hl1,hl2,h2⟩:=h
 refine ⟨h1.kept hc hn,hl1,hl2,fun n=>?_⟩
 have:=h2 n
 cases hs : mf n with
 | none=>rw [hs] at this; exact this
 | some m=>
  rw [hs] at this
  obtain ⟨h5,v,h6,h7⟩:=this
  exact ⟨h5,v,h6,h7.kept hc hS⟩
theorem ModsAt.mono {w:World} {b:Nat} {G F:Nat→Prop} {mf:Nm→Option Mod} {es:List (List UInt8 × Value)} (h:ModsAt w b G mf es) (hF : ∀ x,G x→F x):ModsAt w b F mf es:=by
 obtain ⟨h1,hl1,hl2,h2⟩:=h
 refine ⟨h1,hl1,hl2,fun n=>?_⟩
 have:=h2 n
 cases hs : mf n with
 | none=>rw [hs] at this; exact this
 | some m=>
  rw [hs] at this
  obtain ⟨h5,v,h6,h7⟩:=this
  exact ⟨h5,v,h6,h7.mono hF⟩
def impOf (mf:Nm→Option Mod) (n:Nm):List Nm:=match mf n with
 | none=>[]
 | some m=>m.imports
theorem impOf_few {w:World} {b:Nat} {G:Nat→Prop} {mf:Nm→Option Mod} {es:List (List UInt8 × Value)} (h:ModsAt w b G mf es) (n:Nm) : (impOf mf n).length≤1000:=by
 obtain ⟨_,_,_,h2⟩:=h
 have:=h2 n
 rw [impOf]
 cases hs : mf n with
 | none=>simp
 | some m=>rw [hs] at this; exact this.1
def At1 {α:Type} (l:List α) (f : α→Bool) (e:Ending):Prop:=match l.find? f with
 | none=>e = .returned (.int .i64 (-1))
 | some x=>∃ k:Nat,l[k]?=some x∧e = .returned (.int .i64 k)
theorem any_find {α:Type} (l:List α) (f : α→Bool) : l.any f=(l.find? f).isSome:=by
 induction l with
 | nil=>rfl
 | cons x r ih=>
  rw [List.any_cons,List.find?_cons]
  cases hx : f x with
  | true=>rfl
  | false=>simpa using ih
end Go.Mq.Plan
namespace Go.Proofs.YtojkkgghndeimaaGreatDoor
open Go Go.RowKit Go.Mq Go.Mq.Tree Go.Mq.Plan
set_option maxRecDepth 100000
set_option maxHeartbeats 2000000
theorem zero_mod (w:World) : (zeroValue 31).run Tryz.prog w = .ok (.agg #[str [],nils,nils,nils,nils]) w:=by kernel_rfl
theorem field_imports (x0 x1 x2 x3 x4:Value) (w:World) : (Instr.field 31 (.agg #[x0,x1,x2,x3,x4]) 1).run Tryz.prog w = .ok x1 w:=by kernel_rfl
theorem look_mod {w:World} {b:Nat} {G:Nat→Prop} {mf:Nm→Option Mod} {es:List (List UInt8 × Value)} (h:ModsAt w b G mf es) (n:Nm) : ∃ (nm:Nm) (ai:Option Addr) (ci:Nat) (av:Option Addr) (nv cv:Nat) (ap:Option Addr) (np cp:Nat) (ab:Option Addr) (nb cb:Nat),
  (∀ w',Chg [] w w'→(Instr.lookup 53 (.map (some b)) (str n) false).run Tryz.prog w' = .ok (.agg #[str nm,.slice ai (impOf mf n).length ci,.slice av nv cv,.slice ap np cp,.slice ab nb cb]) w') ∧
  (∀ w',Chg [] w w'→(Instr.lookup 53 (.map (some b)) (str n) true).run Tryz.prog w' = .ok (.tuple #[.agg #[str nm,.slice ai (impOf mf n).length ci,.slice av nv cv,.slice ap np cp,.slice ab nb cb],.bool (mf n).isSome]) w') ∧
  NamesAt w G (impOf mf n) (.slice ai (impOf mf n).length ci):=by
 obtain ⟨h1,_,_,h2⟩:=h
 have hn:=h2 n
 cases hs : mf n with
 | none=>
  rw [hs] at hn
  simp only at hn
  refine ⟨[],none,0,none,0,0,none,0,0,none,0,0,fun w' hc=>?_,fun w' hc=>?_,?_⟩
  ·have:=run_getM (P:=Tryz.prog) Tryz.underlying53 Tryz.underlying9 (zero_mod w') (h1.kept hc (by simp)) n
   rw [hn] at this
   rw [impOf,hs]; exact this
  ·have:=run_getMok (P:=Tryz.prog) Tryz.underlying53 Tryz.underlying9 (zero_mod w') (h1.kept hc (by simp)) n
   rw [hn] at this
   rw [impOf,hs]; exact this
  ·rw [impOf,hs]; exact NamesAt.nil
 | some m=>
  rw [hs] at hn
  obtain ⟨_,v,h6,vi,vv,vp,vb,rfl,⟨ai,ci,rfl,hi⟩,⟨av,cv,rfl,_⟩,⟨ap,cp,_,rfl,_⟩,⟨ab,cb,_,rfl,_⟩⟩:=hn
  refine ⟨m.name,ai,ci,av,m.vars.length,cv,ap,m.procs.length,cp,ab,m.body.len,cb,fun w' hc=>?_,fun w' hc=>?_,?_⟩
  ·have:=run_getM (P:=Tryz.prog) Tryz.underlying53 Tryz.underlying9 (zero_mod w') (h1.kept hc (by simp)) n
   rw [h6] at this
   rw [impOf,hs]; exact this
  ·have:=run_getMok (P:=Tryz.prog) Tryz.underlying53 Tryz.underlying9 (zero_mod w') (h1.kept hc (by simp)) n
   rw [h6] at this
   rw [impOf,hs]; exact this
  ·rw [impOf,hs]; exact ⟨ai,ci,rfl,hi⟩
structure OrderAt (w:World) (bm bo b:Nat) (G Fo:Nat→Prop) (mf:Nm→Option Mod) (es:List (List UInt8 × Value)) (out:List Nm):Prop where
 m : w.cell? ⟨bm,0,none⟩=some (.map (some b))
 o : ∃ ov,w.cell? ⟨bo,0,none⟩=some ov∧NamesAt w Fo out ov
 mods:ModsAt w b G mf es
 few : out.length≤1000
theorem OrderAt.kept {w w':World} {bm bo b:Nat} {G Fo:Nat→Prop} {mf:Nm→Option Mod} {es:List (List UInt8 × Value)} {out:List Nm} (h:OrderAt w bm bo b G Fo mf es out) (hc:Chg [] w w'):OrderAt w' bm bo b G Fo mf es out:=by
 obtain ⟨ov,h1,h2⟩:=h.o
 exact ⟨hc.cellSome h.m (by simp),⟨ov,hc.cellSome h1 (by simp),h2.kept hc (by simp)⟩,h.mods.kept hc (by simp) (by simp),h.few⟩
theorem inner_any (i:Nm) (bm bo b:Nat) (G Fo:Nat→Prop) (mf:Nm→Option Mod) (es:List (List UInt8 × Value)) (out:List Nm) (w:World) (h:OrderAt w bm bo b G Fo mf es out) :
  Calls Tryz.prog 79 #[str i,ptr bm,ptr bo] w (fun e w'=>e = .returned (.bool ((mf i).isSome && !decide (i∈out)))∧Chg [] w w'):=by
 obtain ⟨nm,ai,ci,av,nv,cv,ap,np,cp,ab,nb,cb,_,hlk,_⟩:=look_mod h.mods i
 have hlu:=hlk w (Chg.refl _ _)
 have hm:=h.m
 have HO:=Lib.hid h
 have hz:=Blk.new w #[str [],nils,nils,nils,nils] 31
 obtain ⟨wA,hwA⟩ : ∃ w',w.alloc (.cells #[str [],nils,nils,nils,nils] 31)=w':=⟨_,rfl⟩
 rw [hwA] at hz
 have hcA:Chg [] w wA:=by rw [← hwA]; exact (Chg.refl _ _).alloc _
 obtain ⟨wF,hwF,hcF,hbF⟩:=set5 (str nm) (.slice ai (impOf mf i).length ci) (.slice av nv cv) (.slice ap np cp) (.slice ab nb cb) hz
 have hcw:Chg [] w wF:=hcA.trans hcF (fun x hx=>.inr (by simp at hx; omega))
 have z0:=hz.cell 0 _ rfl; have z1:=hz.cell 1 _ rfl; have z2:=hz.cell 2 _ rfl; have z3:=hz.cell 3 _ rfl; have z4:=hz.cell 4 _ rfl
 have y0:=hz.frozen 0; have y1:=hz.frozen 1; have y2:=hz.frozen 2; have y3:=hz.frozen 3; have y4:=hz.frozen 4
 obtain ⟨ov,ho,hon⟩:=(h.kept hcw).o
 have HC:=Lib.hid hcw
 have HCT:=Lib.hid (contains_in out h.few i Fo ov wF hon)
 clear h hz hcA hcF hbF hcw hlk hon
 cases hth : (mf i).isSome with
 | false=>
  rw [hth] at hlu
  go_enter Tryz.func79,Tryz.ntmps79
  go_wp2_with fail
  go_ret
  exact ⟨rfl,HC.out⟩
 | true=>
  rw [hth] at hlu
  go_enter Tryz.func79,Tryz.ntmps79
  go_wp2_with fail
  refine HCT.out.mono ?_; rintro _ _ ⟨rfl,hw⟩; have hw:=hw.symm; subst hw
  go_wp2_with fail
  go_ret
  exact ⟨rfl,HC.out⟩
theorem inner_index (l:List Nm) (hl : l.length≤1000) (p:Nm→Bool) (c1 c2:Nat) (F:Nat→Prop) (v:Value) (w:World) (h:NamesAt w F l v)
  (hf : ∀ n w',Chg [] w w'→Calls Tryz.prog 79 #[str n,ptr c1,ptr c2] w' (fun e w''=>e = .returned (.bool (p n))∧Chg [] w' w'')) :
  Calls Tryz.prog 76 #[v,.func (.func 79) #[] #[ptr c1,ptr c2]] w (fun e w'=>At1 l p e∧Chg [] w w'):=by
 obtain ⟨a,c,rfl,hac,hrow⟩:=h
 have HROW:=Lib.hid hrow; have HF:=Lib.hid hf
 clear hrow hf
 go_enter Tryz.func76,Tryz.ntmps76
 go_wp2_with fail
 go_loopw [5,8] (fun _ i wr=>∃ k:Nat,i = .int .i64 k∧k≤l.length∧Chg [] w wr ∧ ∀ (i:Nat) (x:Nm),i < k→l[i]?=some x→p x=false) (fun _ i _=>l.length - (intOf i).toNat)
 case atStart=>exact ⟨0,rfl,Nat.zero_le _,Chg.refl _ _,fun i x hi=>by omega⟩
 case round=>
  obtain ⟨k,rfl,hk,hc,hno⟩:=hrel
  have HNO:=Lib.hid hno; have HC:=Lib.hid hc
  clear hno hc
  by_cases hlt : k < l.length
  ·obtain ⟨s,hs⟩ : ∃ s,l[k]?=some s:=⟨l[k],List.getElem?_eq_getElem hlt⟩
   obtain ⟨bb,off,rfl,d0⟩:=names_cell (HROW.out.kept HC.out (by simp)) hs
   have HS:=Lib.hid hs
   have HI:=Lib.hid (HF.out s wr HC.out)
   clear hs
   cases hq : p s with
   | true=>
    rw [hq] at HI
    have HR:=Lib.hid (show l.find? p=some s from find_at HS.out hq HNO.out)
    clear hq
    go_wp2_with fail
    refine HI.out.mono ?_; rintro _ w2 ⟨rfl,hq⟩
    have HQ:=Lib.hid (HC.out.then hq); clear hq
    go_wp2_with fail
    go_ret
    refine ⟨?_,HQ.out⟩
    rw [At1,HR.out]
    exact ⟨k,HS.out,rfl⟩
   | false=>
    rw [hq] at HI
    have HN:=Lib.hid hq
    clear hq
    go_wp2_with fail
    refine HI.out.mono ?_; rintro _ w2 ⟨rfl,hq⟩
    have HQ:=Lib.hid (HC.out.then hq); clear hq
    go_wp2_with fail
    refine ⟨⟨k + 1,by go_num,by omega,HQ.out,fun i x hi hx=>?_⟩,by simp [intOf]; omega⟩
    by_cases he : i < k
    ·exact HNO.out i x he hx
    ·have : i=k:=by omega
     subst this
     rw [HS.out] at hx
     cases hx
     exact HN.out
  ·have HR:=Lib.hid (show l.find? p=none from find_no fun i x hx=>HNO.out i x (by have:=(List.getElem?_eq_some_iff.1 hx).1; omega) hx)
   go_wp2_with fail
   go_ret
   exact ⟨by rw [At1,HR.out] <;> rfl,HC.out⟩
theorem inner_contains (l:List Nm) (hl : l.length≤1000) (p:Nm→Bool) (c1 c2:Nat) (F:Nat→Prop) (v:Value) (w:World) (h:NamesAt w F l v)
  (hf : ∀ n w',Chg [] w w'→Calls Tryz.prog 79 #[str n,ptr c1,ptr c2] w' (fun e w''=>e = .returned (.bool (p n))∧Chg [] w' w'')) :
  Calls Tryz.prog 78 #[v,.func (.func 79) #[] #[ptr c1,ptr c2]] w (fun e w'=>e = .returned (.bool (l.any p))∧Chg [] w w'):=by
 have HI:=Lib.hid (inner_index l hl p c1 c2 F v w h hf)
 clear h hf
 go_enter Tryz.func78,Tryz.ntmps78
 go_wp2_with fail
 refine HI.out.mono ?_; rintro e w1 ⟨hat,hc⟩
 have HC:=Lib.hid hc
 have hfd:=any_find l p
 clear hc
 rw [At1] at hat
 cases hx : l.find? p with
 | none=>
  rw [hx] at hat hfd
  simp only at hat
  subst hat
  have HAF:=Lib.hid (show l.any p=false from hfd)
  clear hfd hx
  go_wp2_with fail
  go_ret
  exact ⟨by rw [HAF.out] <;> rfl,HC.out⟩
 | some x=>
  rw [hx] at hat hfd
  obtain ⟨k,hk,rfl⟩:=hat
  have HAF:=Lib.hid (show l.any p=true from hfd)
  have hkz : decide ((0:Int)≤(k:Int))=true:=by simp
  clear hfd hx hk
  go_wp2_with fail
  go_ret
  exact ⟨by rw [HAF.out] <;> simp,HC.out⟩
theorem outer_any (n:Nm) (bm bo b:Nat) (G Fo:Nat→Prop) (mf:Nm→Option Mod) (es:List (List UInt8 × Value)) (out:List Nm) (w:World) (h:OrderAt w bm bo b G Fo mf es out) :
  Calls Tryz.prog 77 #[str n,ptr bo,ptr bm] w (fun e w'=>e = .returned (.bool (may (fun i=>(mf i).isSome) (impOf mf) out n))∧Chg [] w w'):=by
 have hmf : ∀ (fn:Fn) (first cap:Array Value) (w:World),(Instr.makeFunc fn first cap).run Tryz.prog w = .ok (.func fn first cap) w:=fun _ _ _ _=>rfl
 obtain ⟨nm,ai,ci,av,nv,cv,ap,np,cp,ab,nb,cb,hlk,_,hni⟩:=look_mod h.mods n
 have hlu:=hlk w (Chg.refl _ _)
 have hm:=h.m
 obtain ⟨ov,ho,hon⟩:=h.o
 have hfi:=field_imports
 have HCT:=Lib.hid (contains_in out h.few n Fo ov w hon)
 have HAN:=Lib.hid (inner_contains (impOf mf n) (impOf_few h.mods n) (fun i=>(mf i).isSome && !decide (i∈out)) bm bo G _ w hni (fun i w' hc=>inner_any i bm bo b G Fo mf es out w' (h.kept hc)))
 have HMY:=Lib.hid (show may (fun i=>(mf i).isSome) (impOf mf) out n=(!decide (n∈out) && !((impOf mf n).any fun i=>(mf i).isSome && !decide (i∈out))) from rfl)
 obtain ⟨my,hmy⟩ : ∃ q,q=may (fun i=>(mf i).isSome) (impOf mf) out n:=⟨_,rfl⟩
 rw [← hmy] at HMY ⊢
 obtain ⟨q,hq⟩ : ∃ q,q=(impOf mf n).any fun i=>(mf i).isSome && !decide (i∈out):=⟨_,rfl⟩
 rw [← hq] at HAN HMY
 clear h hlk hni hon hmy hq
 cases hin : decide (n∈out) with
 | true=>
  rw [hin] at HCT HMY
  have HT:=Lib.hid (show my=false from HMY.out)
  clear hin
  go_enter Tryz.func77,Tryz.ntmps77
  go_wp2_with fail
  refine HCT.out.mono ?_; rintro _ _ ⟨rfl,hw⟩; have hw:=hw.symm; subst hw
  go_wp2_with fail
  go_ret
  exact ⟨by rw [HT.out] <;> rfl,Chg.refl _ _⟩
 | false=>
  rw [hin] at HCT HMY
  have HT:=Lib.hid (show my = !q from HMY.out)
  clear hin
  go_enter Tryz.func77,Tryz.ntmps77
  go_wp2_with fail
  refine HCT.out.mono ?_; rintro _ _ ⟨rfl,hw⟩; have hw:=hw.symm; subst hw
  go_wp2_with fail
  refine HAN.out.mono ?_; rintro _ w2 ⟨rfl,hc2⟩
  have HC2:=Lib.hid hc2
  clear hc2
  go_wp2_with fail
  go_ret
  exact ⟨by rw [HT.out] <;> rfl,HC2.out⟩
theorem outer_index (l:List Nm) (hl : l.length≤1000) (p:Nm→Bool) (c1 c2:Nat) (F:Nat→Prop) (v:Value) (w:World) (h:NamesAt w F l v)
  (hf : ∀ n w',Chg [] w w'→Calls Tryz.prog 77 #[str n,ptr c1,ptr c2] w' (fun e w''=>e = .returned (.bool (p n))∧Chg [] w' w'')) :
  Calls Tryz.prog 76 #[v,.func (.func 77) #[] #[ptr c1,ptr c2]] w (fun e w'=>At1 l p e∧Chg [] w w'):=by
 obtain ⟨a,c,rfl,hac,hrow⟩:=h
 have HROW:=Lib.hid hrow; have HF:=Lib.hid hf
 clear hrow hf
 go_enter Tryz.func76,Tryz.ntmps76
 go_wp2_with fail
 go_loopw [5,8] (fun _ i wr=>∃ k:Nat,i = .int .i64 k∧k≤l.length∧Chg [] w wr ∧ ∀ (i:Nat) (x:Nm),i < k→l[i]?=some x→p x=false) (fun _ i _=>l.length - (intOf i).toNat)
 case atStart=>exact ⟨0,rfl,Nat.zero_le _,Chg.refl _ _,fun i x hi=>by omega⟩
 case round=>
  obtain ⟨k,rfl,hk,hc,hno⟩:=hrel
  have HNO:=Lib.hid hno; have HC:=Lib.hid hc
  clear hno hc
  by_cases hlt : k < l.length
  ·obtain ⟨s,hs⟩ : ∃ s,l[k]?=some s:=⟨l[k],List.getElem?_eq_getElem hlt⟩
   obtain ⟨bb,off,rfl,d0⟩:=names_cell (HROW.out.kept HC.out (by simp)) hs
   have HS:=Lib.hid hs
   have HI:=Lib.hid (HF.out s wr HC.out)
   clear hs
   cases hq : p s with
   | true=>
    rw [hq] at HI
    have HR:=Lib.hid (show l.find? p=some s from find_at HS.out hq HNO.out)
    clear hq
    go_wp2_with fail
    refine HI.out.mono ?_; rintro _ w2 ⟨rfl,hq⟩
    have HQ:=Lib.hid (HC.out.then hq); clear hq
    go_wp2_with fail
    go_ret
    refine ⟨?_,HQ.out⟩
    rw [At1,HR.out]
    exact ⟨k,HS.out,rfl⟩
   | false=>
    rw [hq] at HI
    have HN:=Lib.hid hq
    clear hq
    go_wp2_with fail
    refine HI.out.mono ?_; rintro _ w2 ⟨rfl,hq⟩
    have HQ:=Lib.hid (HC.out.then hq); clear hq
    go_wp2_with fail
    refine ⟨⟨k + 1,by go_num,by omega,HQ.out,fun i x hi hx=>?_⟩,by simp [intOf]; omega⟩
    by_cases he : i < k
    ·exact HNO.out i x he hx
    ·have : i=k:=by omega
     subst this
     rw [HS.out] at hx
     cases hx
     exact HN.out
  ·have HR:=Lib.hid (show l.find? p=none from find_no fun i x hx=>HNO.out i x (by have:=(List.getElem?_eq_some_iff.1 hx).1; omega) hx)
   go_wp2_with fail
   go_ret
   exact ⟨by rw [At1,HR.out] <;> rfl,HC.out⟩
end Go.Proofs.YtojkkgghndeimaaGreatDoor
