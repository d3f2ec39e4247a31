/- Some texts in one. -/
import Derived.MapKept
import Derived.Maps.RangeWalk
import Derived.Test.YtilhhkokdfajiaaGreatDoorI1
import Derived.Test.YtilhhkokdfajiaaGreatDoorI10
import Derived.Test.YtilhhkokdfajiaaGreatDoorI11
import Derived.Test.YtilhhkokdfajiaaGreatDoorI13
import Derived.Test.YtilhhkokdfajiaaGreatDoorI19
namespace Go.Mq.Plan
open Go Go.RowKit Go.Mq Go.Mq.Tree
abbrev Nm:=List UInt8
def may (there:Nm→Bool) (imp:Nm→List Nm) (out:List Nm) (n:Nm):Bool:=!decide (n∈out) && !((imp n).any fun i=>there i && !decide (i∈out))
end Go.Mq.Plan
namespace Go.Mq.Plan
open Go Go.RowKit Go.Mq Go.Mq.Tree Go.MapKept
theorem str_inj {a b:List UInt8} (h : str a=str b) : a=b:=by
 have h1 : bs a=bs b:=by simpa [str] using h
 have:=congrArg (fun x=>x.data.toList) h1
 simpa [bs] using this
def MapIs (w:World) (b:Nat) (es:List (List UInt8 × Value)):Prop:=∃ arr clock,w.heap[b]?=some (.map arr clock)∧arr.toList.map (fun e=>(e.key,e.val))=(es.map fun p=>(str p.1,p.2))∧Stamped arr clock
def getM:List (List UInt8 × Value)→List UInt8→Option Value
 | [],_=>none
 | (k,u) :: r,n=>if k=n then some u else getM r n
def putM:List (List UInt8 × Value)→List UInt8→Value→List (List UInt8 × Value)
 | [],n,v=>[(n,v)]
 | (k,u) :: r,n,v=>if k=n then (k,v) :: r else (k,u) :: putM r n v
def idxM:List (List UInt8 × Value)→List UInt8→Nat→Option (Nat × Value)
 | [],_,_=>none
 | (k,u) :: r,n,i=>if k=n then some (i,u) else idxM r n (i + 1)
theorem getM_put : ∀ (es:List (List UInt8 × Value)) (n:List UInt8) (v:Value) (x:List UInt8),getM (putM es n v) x=if n=x then some v else getM es x
 | [],n,v,x=>rfl
 | (k,u) :: r,n,v,x=>by
  rw [putM]
  by_cases hk : k=n
  ·subst hk
   rw [if_pos rfl,getM,getM]
   split <;> rfl
  ·rw [if_neg hk,getM,getM,getM_put r]
   by_cases hx : k=x
   ·subst hx; rw [if_pos rfl,if_pos rfl,if_neg (Ne.symm hk)]
   ·rw [if_neg hx,if_neg hx]
theorem idxM_get : ∀ (es:List (List UInt8 × Value)) (n:List UInt8) (i:Nat),(idxM es n i).map (·.2)=getM es n
 | [],_,_=>rfl
 | (k,u) :: r,n,i=>by
  rw [idxM,getM]
  split
  ·rfl
  ·exact idxM_get r n (i + 1)
theorem findNow_is {n:List UInt8} : ∀ {l:List MapEntry} {es:List (List UInt8 × Value)} {i:Nat},l.map (fun e=>(e.key,e.val))=es.map (fun p=>(str p.1,p.2))→Instr.findNow .string (str n) l i=some (idxM es n i)
 | [],[],i,_=>rfl
 | [],_ :: _,_,h=>by simp at h
 | _ :: _,[],_,h=>by simp at h
 | e :: l,(k,u) :: es,i,h=>by
  simp only [List.map_cons,List.cons.injEq,Prod.mk.injEq] at h
  obtain ⟨⟨h1,h2⟩,h3⟩:=h
  have hs:Instr.sameNow .string (str n) e.key=some (n == k):=by
   rw [h1]
   show some (bs n == bs k)=_
   rw [bs_beq]
  rw [Instr.findNow,hs,idxM]
  by_cases hk : k=n
  ·subst hk; simp [h2]
  ·have : (n == k)=false:=by simpa using fun h=>hk h.symm
   rw [this,if_neg hk]; exact findNow_is h3
theorem idxM_none : ∀ {es:List (List UInt8 × Value)} {n:List UInt8} {i:Nat} {v:Value},idxM es n i=none→putM es n v=es ++ [(n,v)]
 | [],_,_,_,_=>rfl
 | (k,u) :: r,n,i,v,h=>by
  rw [idxM] at h
  split at h
  ·cases h
  ·next hk=>rw [putM,if_neg hk,idxM_none h]; rfl
theorem idxM_some : ∀ {es:List (List UInt8 × Value)} {n:List UInt8} {i j:Nat} {u v:Value},idxM es n i=some (j,u)→i≤j∧es[j - i]?=some (n,u)∧putM es n v=es.modify (j - i) fun p=>(p.1,v)
 | [],_,_,_,_,_,h=>by cases h
 | (k,u) :: r,n,i,j,u',v,h=>by
  rw [idxM] at h
  split at h
  ·next hk=>cases h; subst hk; simp [putM]
  ·next hk=>
   obtain ⟨h1,h2,h3⟩:=idxM_some (v:=v) h
   obtain ⟨d,rfl⟩ : ∃ d,j=i + 1 + d:=⟨j - (i + 1),by omega⟩
   rw [show i + 1 + d - (i + 1)=d by omega] at h2 h3
   rw [show i + 1 + d - i=d + 1 by omega,putM,if_neg hk,h3]
   exact ⟨by omega,by simpa using h2,by simp⟩
theorem idxM_none_key {n:List UInt8} : ∀ {l:List MapEntry} {es:List (List UInt8 × Value)} {i:Nat},l.map (fun e=>(e.key,e.val))=es.map (fun p=>(str p.1,p.2))→idxM es n i=none → ∀ x∈l,x.key≠str n
 | [],_,_,_,_=>by simp
 | _ :: _,[],_,h,_=>by simp at h
 | e :: l,(k,u) :: es,i,h,hi=>by
  simp only [List.map_cons,List.cons.injEq,Prod.mk.injEq] at h
  obtain ⟨⟨h1,_⟩,h3⟩:=h
  rw [idxM] at hi
  split at hi
  ·cases hi
  ·next hk=>
   intro x hx
   rcases List.mem_cons.1 hx with rfl | hx
   ·rw [h1]
    intro he
    exact hk (str_inj he)
   ·exact idxM_none_key h3 hi x hx
theorem MapIs.kept {S:List Nat} {w w':World} {b:Nat} {es:List (List UInt8 × Value)} (h:MapIs w b es) (hc:Chg S w w') (hn : b∉S):MapIs w' b es:=by
 obtain ⟨arr,clock,hb,he,hst⟩:=h
 exact ⟨arr,clock,by rw [hc.block b (Array.getElem?_eq_some_iff.1 hb).1 hn]; exact hb,he,hst⟩
theorem MapIs.lt {w:World} {b:Nat} {es:List (List UInt8 × Value)} (h:MapIs w b es) : b < w.heap.size:=by
 obtain ⟨arr,clock,hb,he,hst⟩:=h
 exact (Array.getElem?_eq_some_iff.1 hb).1
theorem MapIs.made (w:World):MapIs (w.alloc (.map #[] 0)) w.heap.size []:=⟨#[],0,heap_alloc_new w _,rfl,stamped_empty 0⟩
section
variable {P:Program} {T K E:TypeId} {w:World} {b:Nat} {es:List (List UInt8 × Value)} {z:Value}
theorem run_getM (hT:P.underlying T=some (.map K E)) (hK:P.underlying K=some .string) (hz : (zeroValue E).run P w = .ok z w) (h:MapIs w b es) (n:List UInt8) :
  (Instr.lookup T (.map (some b)) (str n) false).run P w = .ok ((getM es n).getD z) w:=by
 obtain ⟨arr,clock,hb,he,hst⟩:=h
 have hf:=findNow_is (n:=n) (i:=0) he
 rw [← idxM_get es n 0]
 cases hi : idxM es n 0 with
 | none=>rw [hi] at hf; simp [Instr.lookup,run_underlying hT,Go.MapKept.run_getObj_map hb,Go.MapKept.run_checkKey (d:=.string) (k:=str n) hK trivial,Go.MapKept.run_findKey hK hf,hz,Result.andThen]
 | some p=>obtain ⟨i,u⟩:=p; rw [hi] at hf; simp [Instr.lookup,run_underlying hT,Go.MapKept.run_getObj_map hb,Go.MapKept.run_checkKey (d:=.string) (k:=str n) hK trivial,Go.MapKept.run_findKey hK hf,Result.andThen]
theorem run_getMok (hT:P.underlying T=some (.map K E)) (hK:P.underlying K=some .string) (hz : (zeroValue E).run P w = .ok z w) (h:MapIs w b es) (n:List UInt8) :
  (Instr.lookup T (.map (some b)) (str n) true).run P w = .ok (.tuple #[(getM es n).getD z,.bool (getM es n).isSome]) w:=by
 obtain ⟨arr,clock,hb,he,hst⟩:=h
 have hf:=findNow_is (n:=n) (i:=0) he
 rw [← idxM_get es n 0]
 cases hi : idxM es n 0 with
 | none=>rw [hi] at hf; simp [Instr.lookup,run_underlying hT,Go.MapKept.run_getObj_map hb,Go.MapKept.run_checkKey (d:=.string) (k:=str n) hK trivial,Go.MapKept.run_findKey hK hf,hz,Result.andThen]
 | some p=>obtain ⟨i,u⟩:=p; rw [hi] at hf; simp [Instr.lookup,run_underlying hT,Go.MapKept.run_getObj_map hb,Go.MapKept.run_checkKey (d:=.string) (k:=str n) hK trivial,Go.MapKept.run_findKey hK hf,Result.andThen]
theorem run_getNok (hT:P.underlying T=some (.map K E)) (hK:P.underlying K=some .string) (hz : (zeroValue E).run P w = .ok z w) (n:List UInt8) (ok:Bool) :
  (Instr.lookup T (.map none) (str n) ok).run P w = .ok (if ok then .tuple #[z,.bool false] else z) w:=by
 have hf:Instr.findNow .string (str n) [] 0=some none:=rfl
 cases ok <;> simp [Instr.lookup,run_underlying hT,Go.MapKept.run_checkKey (d:=.string) (k:=str n) hK trivial,Go.MapKept.run_findKey hK hf,hz,Result.andThen]
theorem run_putM (hT:P.underlying T=some (.map K E)) (hK:P.underlying K=some .string) (h:MapIs w b es) (n:List UInt8) (v:Value) :
  ∃ w',(Instr.mapUpdate T (.map (some b)) (str n) v).run P w = .ok () w'∧MapIs w' b (putM es n v)∧Chg [b] w w':=by
 obtain ⟨arr,clock,hb,he,hst⟩:=h
 have hlt:=(Array.getElem?_eq_some_iff.1 hb).1
 have hf:=findNow_is (n:=n) (i:=0) he
 have hck : ∀ o:Obj,Chg [b] w { w with heap:=w.heap.setIfInBounds b o }:=fun o=>⟨rfl,rfl,rfl,by simp,fun k _ hk=>by
  show (w.heap.setIfInBounds b _)[k]?=_
  rw [Array.getElem?_setIfInBounds_ne (fun e=>hk (by simp [e]))]⟩
 cases hi : idxM es n 0 with
 | none=>
  rw [hi] at hf
  refine ⟨{ w with heap:=w.heap.setIfInBounds b (.map (arr.push { key:=str n,val:=v,born:=clock }) (clock + 1)) },by simp [Instr.mapUpdate,run_underlying hT,Go.MapKept.run_getObj_map hb,Go.MapKept.run_checkKey (d:=.string) (k:=str n) hK trivial,Go.MapKept.run_findKey hK hf,Go.MapKept.run_setObj_map _ hb,Result.andThen],⟨arr.push { key:=str n,val:=v,born:=clock },clock + 1,by simp [hlt],?_,stamped_push hst (idxM_none_key he hi)⟩,hck _⟩
  rw [idxM_none hi]
  simp [he]
 | some p=>
  obtain ⟨j,u⟩:=p
  rw [hi] at hf
  obtain ⟨_,h2,h3⟩:=idxM_some (v:=v) hi
  rw [Nat.sub_zero] at h2 h3
  have hj : ∃ e,arr[j]?=some e∧e.key=str n:=by
   have:=congrArg (fun l=>l[j]?) he
   simp only [List.getElem?_map,h2,Option.map_some] at this
   cases ha : arr.toList[j]? with
   | none=>rw [ha] at this; simp at this
   | some e=>rw [ha] at this; simp at this; exact ⟨e,by simpa using ha,this.1⟩
  obtain ⟨e,hj,hk⟩:=hj
  refine ⟨{ w with heap:=w.heap.setIfInBounds b (.map (arr.modify j fun e=>{ e with key:=str n,val:=v }) clock) },by simp [Instr.mapUpdate,run_underlying hT,Go.MapKept.run_getObj_map hb,Go.MapKept.run_checkKey (d:=.string) (k:=str n) hK trivial,Go.MapKept.run_findKey hK hf,hj,hk,Go.MapKept.run_keyThatStays (d:=.string) (k:=str n) trivial,Go.MapKept.run_setObj_map _ hb,Result.andThen],⟨arr.modify j fun e=>{ e with key:=str n,val:=v },clock,by simp [hlt],?_,stamped_modify hst _ _ (fun _ _=>rfl) (fun e' _ he'=>by rw [hj] at he'; cases he'; exact hk.symm)⟩,hck _⟩
  rw [h3]
  apply List.ext_getElem?
  intro i
  have hi':=congrArg (fun l=>l[i]?) he
  simp only [List.getElem?_map] at hi'
  simp only [List.getElem?_map,Array.toList_modify,List.getElem?_modify]
  by_cases hij : j=i
  ·subst hij
   rw [h2]
   have : arr.toList[j]?=some e:=by simpa using hj
   rw [this]
   simp
  ·simp only [if_neg hij]
   cases ha : arr.toList[i]? <;> cases hb' : es[i]? <;> simp_all
end
def HadIs (w:World) (b:Nat) (had:List (List UInt8)):Prop:=∃ es,MapIs w b es ∧ ∀ n,getM es n=if n∈had then some (.bool true) else none
theorem HadIs.kept {S:List Nat} {w w':World} {b:Nat} {had:List (List UInt8)} (h:HadIs w b had) (hc:Chg S w w') (hn : b∉S):HadIs w' b had:=by
 obtain ⟨es,h1,h2⟩:=h
 exact ⟨es,h1.kept hc hn,h2⟩
theorem HadIs.made (w:World):HadIs (w.alloc (.map #[] 0)) w.heap.size []:=⟨[],MapIs.made w,fun n=>by simp [getM]⟩
end Go.Mq.Plan
namespace Go.Mq.Plan
open Go Go.RowKit Go.Mq Go.Mq.Tree Go.MapKept
open Go.ChangeMaps (setBlock)
def Ranging (w:World) (b r:Nat) (es:List (List UInt8 × Value)) (rest:List Nm):Prop:=∃ arr clock since seen c0,w.heap[b]?=some (.map arr clock)∧arr.toList.map (fun e=>(e.key,e.val))=(es.map fun p=>(str p.1,p.2))∧Stamped arr clock ∧
 w.heap[r]?=some (.mapIter (some b) since seen c0)∧(∀ x∈arr.toList,x.born < since)∧since≤c0∧since≤clock∧(leftOf arr seen).toList.map (·.key)=rest.map str
theorem Ranging.left_eq {w:World} {b r:Nat} {es:List (List UInt8 × Value)} {rest:List Nm} (h:Ranging w b r es rest) : w.rangeLeft b r=rest.length:=by
 obtain ⟨arr,clock,since,seen,c0,hb,_,_,hr,_,_,_,hl⟩:=h
 have:=congrArg List.length hl
 simp only [List.length_map,Array.length_toList] at this
 simp only [World.rangeLeft,hb,hr]
 exact this
theorem Ranging.map {w:World} {b r:Nat} {es:List (List UInt8 × Value)} {rest:List Nm} (h:Ranging w b r es rest):MapIs w b es:=by
 obtain ⟨arr,clock,since,seen,c0,hb,he,hst,_⟩:=h
 exact ⟨arr,clock,hb,he,hst⟩
theorem Ranging.lt {w:World} {b r:Nat} {es:List (List UInt8 × Value)} {rest:List Nm} (h:Ranging w b r es rest) : r < w.heap.size:=by
 obtain ⟨arr,clock,since,seen,c0,_,_,_,hr,_⟩:=h
 exact (Array.getElem?_eq_some_iff.1 hr).1
theorem Ranging.kept {S:List Nat} {w w':World} {b r:Nat} {es:List (List UInt8 × Value)} {rest:List Nm} (h:Ranging w b r es rest) (hc:Chg S w w') (hb : b∉S) (hr : r∉S):Ranging w' b r es rest:=by
 obtain ⟨arr,clock,since,seen,c0,h1,h2,h3,h4,h5⟩:=h
 exact ⟨arr,clock,since,seen,c0,by rw [hc.block b (Array.getElem?_eq_some_iff.1 h1).1 hb]; exact h1,h2,h3,by rw [hc.block r (Array.getElem?_eq_some_iff.1 h4).1 hr]; exact h4,h5⟩
theorem entry_name {l:List MapEntry} {es:List (List UInt8 × Value)} (he : l.map (fun e=>(e.key,e.val))=es.map fun p=>(str p.1,p.2)) (hk : (l.map (·.key)).Nodup) {e:MapEntry} (hm : e∈l) : ∃ n,e.key=str n∧getM es n=some e.val∧n∈es.map (·.1):=by
 induction l generalizing es with
 | nil=>cases hm
 | cons x r ih=>
  cases es with
  | nil=>simp at he
  | cons p es=>
   obtain ⟨k,u⟩:=p
   simp only [List.map_cons,List.cons.injEq,Prod.mk.injEq] at he
   obtain ⟨⟨h1,h2⟩,h3⟩:=he
   rw [List.map_cons,List.nodup_cons] at hk
   rcases List.mem_cons.1 hm with rfl | hm
   ·exact ⟨k,h1,by rw [getM,if_pos rfl,h2],by simp⟩
   ·obtain ⟨n,a1,a2,a3⟩:=ih h3 hk.2 hm
    refine ⟨n,a1,?_,by simp at a3 ⊢; exact .inr a3⟩
    rw [getM,if_neg ?_]
    ·exact a2
    ·intro hkn
     refine hk.1 ?_
     rw [h1,hkn,← a1]
     exact List.mem_map_of_mem hm
section
variable {P:Program} {w:World} {b r:Nat} {es:List (List UInt8 × Value)} {rest:List Nm}
theorem map_range {t k e:TypeId} (ht:P.underlying t=some (.map k e)) (h:MapIs w b es) : ∃ w',(Instr.range t (.map (some b))).run P w = .ok (.pointer (some ⟨w.heap.size,0,none⟩)) w'∧Ranging w' b w.heap.size es (es.map (·.1))∧Chg [] w w'∧w'.heap.size=w.heap.size + 1:=by
 have hlt:=h.lt
 obtain ⟨arr,clock,hb,he,hst⟩:=h
 refine ⟨_,run_range_map w t k e b arr clock ht hb,⟨arr,clock,clock,#[],clock,((MapKept.heap_alloc w _).2 b hlt).trans hb,he,hst,(MapKept.heap_alloc w _).1,hst.1,Nat.le_refl _,Nat.le_refl _,?_⟩,(Chg.refl [] w).alloc _,by simp⟩
 have:=congrArg (List.map (·.1)) he
 simp only [List.map_map,Function.comp_def] at this
 rw [show leftOf arr #[]=arr from Array.filter_eq_self.2 (by simp)]
 simpa [List.map_map,Function.comp_def] using this
theorem map_next (h:Ranging w b r es rest) (hne : r≠b) (ty:TypeId) : (rest=[]∧(Instr.next (.pointer (some ⟨r,0,none⟩)) false ty).run P w = .ok (.tuple #[.bool false]) w) ∨
  ∃ n v rest' w',n∈rest∧n∈es.map (·.1)∧getM es n=some v∧(∀ x,x∈rest→x≠n→x∈rest')∧rest'.length < rest.length∧(Instr.next (.pointer (some ⟨r,0,none⟩)) false ty).run P w = .ok (.tuple #[.bool true,str n,v]) w'∧Ranging w' b r es rest'∧Chg [r] w w' ∧
   (Instr.entry (.pointer (some ⟨r,0,none⟩))).run P w' = .ok (.tuple #[str n,v]) w':=by
 obtain ⟨arr,clock,since,seen,c0,hb,he,hst,hr,hold,hsc,hsk,hl⟩:=h
 rcases run_next_at (P:=P) w ty r b since c0 seen arr clock hr hb hold hsc with ⟨h0,hrun⟩ | ⟨e,hel,w1,hal,hrun⟩
 ·refine .inl ⟨?_,hrun⟩
  have:=congrArg List.length hl
  simp only [List.length_map,Array.length_toList,h0] at this
  exact List.eq_nil_of_length_eq_zero this.symm
 ·obtain ⟨hem,hes⟩:=mem_left hel
  obtain ⟨n,hn,hg,hnk⟩:=entry_name he hst.2.2 hem
  have hr1 : w1.heap[r]?=some (.mapIter (some b) since seen c0):=by rcases hal with rfl | rfl <;> exact hr
  have hb1 : w1.heap[b]?=some (.map arr clock):=by rcases hal with rfl | rfl <;> exact hb
  have hset:=heap_set (o':=.mapIter (some b) since (seen.push e.born) clock) hr1
  have hb' : (setBlock w1 r (.mapIter (some b) since (seen.push e.born) clock)).heap[b]?=some (.map arr clock):=(hset.2 b (fun e1=>hne e1.symm)).trans hb1
  have hnames : ∀ x∈(leftOf arr (seen.push e.born)).toList,∃ k,x.key=str k:=fun x hx=>by
   obtain ⟨hxm,_⟩:=mem_left hx
   obtain ⟨k,hk,_⟩:=entry_name he hst.2.2 hxm
   exact ⟨k,hk⟩
  obtain ⟨rest',hrest⟩ : ∃ rest':List Nm,(leftOf arr (seen.push e.born)).toList.map (·.key)=rest'.map str:=by
   generalize (leftOf arr (seen.push e.born)).toList=L at hnames
   induction L with
   | nil=>exact ⟨[],rfl⟩
   | cons x l ih=>
    obtain ⟨k,hk⟩:=hnames x (by simp)
    obtain ⟨r',hr'⟩:=ih (fun y hy=>hnames y (by simp [hy]))
    exact ⟨k :: r',by simp [hk,hr']⟩
  have hlen : rest'.length < rest.length:=by
   have h1:=congrArg List.length hrest
   have h2:=congrArg List.length hl
   have h3:=left_shrinks arr seen e hel
   simp only [List.length_map,Array.length_toList] at h1 h2
   omega
  refine .inr ⟨n,e.val,rest',_,?_,hnk,hg,fun x hx hxn=>?_,hlen,by rw [← hn]; exact hrun,⟨arr,clock,since,seen.push e.born,clock,hb',he,hst,hset.1,hold,hsk,hsk,hrest⟩,?_,by rw [← hn]; exact run_entry_at _ r b since seen arr clock e hset.1 hb' hem hst.2.1⟩
  ·have : e.key∈rest.map str:=by rw [← hl]; exact List.mem_map_of_mem hel
   rw [hn] at this
   obtain ⟨y,hy,hye⟩:=List.mem_map.1 this
   rw [← str_inj hye]; exact hy
  ·have : str x∈(leftOf arr seen).toList.map (·.key):=by rw [hl]; exact List.mem_map_of_mem hx
   obtain ⟨y,hy,hye⟩:=List.mem_map.1 this
   obtain ⟨hym,hys⟩:=mem_left hy
   have hyb : y.born≠e.born:=fun hbe=>by
    have : y=e:=born_inj hst.2.1 hym hem hbe
    rw [this,hn] at hye
    exact hxn (str_inj hye).symm
   have hy' : y∈(leftOf arr (seen.push e.born)).toList:=by
    simp only [leftOf,Array.toList_filter,List.mem_filter,contains_push]
    refine ⟨hym,?_⟩
    rw [hys]
    simp [hyb]
   have : y.key∈rest'.map str:=by rw [← hrest]; exact List.mem_map_of_mem hy'
   rw [hye] at this
   obtain ⟨z,hz,hze⟩:=List.mem_map.1 this
   rw [← str_inj hze]; exact hz
  ·rcases hal with rfl | rfl
   ·exact ⟨rfl,rfl,rfl,by simp [setBlock],fun i _ hi=>hset.2 i (fun e1=>hi (by simp [e1]))⟩
   ·exact ⟨rfl,rfl,rfl,by simp [setBlock],fun i _ hi=>hset.2 i (fun e1=>hi (by simp [e1]))⟩
end
end Go.Mq.Plan
namespace Go.Mq.Plan
open Go Go.RowKit Go.Mq Go.Mq.Tree
theorem names_cell {w:World} {F:Nat→Prop} {a:Option Addr} {l:List (List UInt8)} (h:Row w F a (l.map str)) {k:Nat} {n:List UInt8} (hk : l[k]?=some n) : ∃ b o,a=some ⟨b,o,none⟩∧w.cell? ⟨b,o + k,none⟩=some (str n):=by
 obtain ⟨b,o,rfl,hc⟩:=h.at_ (by have:=(List.getElem?_eq_some_iff.1 hk).1; simp; omega)
 exact ⟨b,o,rfl,hc k (str n) (by rw [List.getElem?_map,hk]; rfl)⟩
theorem split_at {α:Type} {l:List α} {k:Nat} {x : α} (h : l[k]?=some x) : l=l.take k ++ x :: l.drop (k + 1)∧(l.take k).length=k:=by
 obtain ⟨hk,he⟩:=List.getElem?_eq_some_iff.1 h
 refine ⟨?_,by simp; omega⟩
 rw [← he,← List.drop_eq_getElem_cons hk,List.take_append_drop]
theorem take_snoc {α:Type} {l:List α} {k:Nat} {x : α} (h : l[k]?=some x) : l.take (k + 1)=l.take k ++ [x]:=by
 rw [List.take_add_one,h]; rfl
theorem drop_cons {α:Type} {l:List α} {k:Nat} {x : α} (h : l[k]?=some x) : l.drop k=x :: l.drop (k + 1):=by
 obtain ⟨hk,he⟩:=List.getElem?_eq_some_iff.1 h
 rw [← he,← List.drop_eq_getElem_cons hk]
theorem names_take {w:World} {F:Nat→Prop} {a:Option Addr} {c:Nat} {l:List (List UInt8)} (h:Row w F a (l.map str)) (hc : l.length≤c) {k:Nat} (hk : k≤l.length):NamesAt w F (l.take k) (.slice a k c):=by
 refine ⟨a,c,by rw [List.length_take,Nat.min_eq_left hk],by rw [List.length_take]; omega,fun h0=>?_,fun h0 p hp=>h.own (by simp at h0 ⊢; omega) p hp⟩
 obtain ⟨b,o,ha,hcell⟩:=h.at_ (by simp at h0 ⊢; omega)
 refine ⟨b,o,ha,fun i v hv=>hcell i v ?_⟩
 rw [List.getElem?_map] at hv ⊢
 rw [List.getElem?_take] at hv
 split at hv
 ·exact hv
 ·cases hv
end Go.Mq.Plan
