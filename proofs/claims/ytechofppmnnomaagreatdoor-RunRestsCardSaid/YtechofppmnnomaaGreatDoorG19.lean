/- Some texts in one. -/
import Derived.MapKept
import Derived.BigQuiet
import Derived.Test.YtechofppmnnomaaGreatDoorG5
import Derived.Test.YtechofppmnnomaaGreatDoorG15
import Derived.Test.YtechofppmnnomaaGreatDoorG18
namespace Go.Mq.Check
open Go Go.RowKit Go.Mq Go.Mq.Tree Go.Mq.Sym Go.MapKept
def MapIs (w:World) (b:Nat) (es:List (List UInt8 × Value)):Prop:=∃ arr clock,w.heap[b]?=some (.map arr clock)∧arr.toList.map (fun e=>(e.key,e.val))=es.map fun p=>(str p.1,p.2)
def getM:List (List UInt8 × Value)→List UInt8→Option Value
 | [],_=>none
 | (k,u) :: r,n=>if k=n then some u else getM r n
def putM:List (List UInt8 × Value)→List UInt8→Value→List (List UInt8 × Value)
 | [],n,v=>[(n,v)]
 | (k,u) :: r,n,v=>if k=n then (k,v) :: r else (k,u) :: putM r n v
def idxM:List (List UInt8 × Value)→List UInt8→Nat→Option (Nat × Value)
 | [],_,_=>none
 | (k,u) :: r,n,i=>if k=n then some (i,u) else idxM r n (i + 1)
theorem getM_put : ∀ (es:List (List UInt8 × Value)) (n:List UInt8) (v:Value) (x:List UInt8),getM (putM es n v) x=if n=x then some v else getM es x
 | [],n,v,x=>rfl
 | (k,u) :: r,n,v,x=>by
  rw [putM];by_cases hk : k=n
  ·subst hk
   rw [if_pos rfl,getM,getM];split <;> rfl
  ·rw [if_neg hk,getM,getM,getM_put r]
   by_cases hx : k=x
   ·subst hx;rw [if_pos rfl,if_pos rfl,if_neg (Ne.symm hk)]
   ·rw [if_neg hx,if_neg hx]
theorem idxM_get : ∀ (es:List (List UInt8 × Value)) (n:List UInt8) (i:Nat),(idxM es n i).map (·.2)=getM es n
 | [],_,_=>rfl
 | (k,u) :: r,n,i=>by
  rw [idxM,getM];split
  ·rfl
  ·exact idxM_get r n (i + 1)
theorem findNow_is {n:List UInt8} : ∀ {l:List MapEntry} {es:List (List UInt8 × Value)} {i:Nat},l.map (fun e=>(e.key,e.val))=es.map (fun p=>(str p.1,p.2))→Instr.findNow .string (str n) l i=some (idxM es n i)
 | [],[],i,_=>rfl
 | [],_ :: _,_,h=>by simp at h
 | _ :: _,[],_,h=>by simp at h
 | e :: l,(k,u) :: es,i,h=>by
  simp only [List.map_cons,List.cons.injEq,Prod.mk.injEq] at h;obtain⟨⟨h1,h2⟩,h3⟩:=h;have hs:Instr.sameNow .string (str n) e.key=some (n == k):=by
   rw [h1]
   show some (bs n == bs k)=_
   rw [bs_beq]
  rw [Instr.findNow,hs,idxM];by_cases hk : k=n
  ·subst hk;simp [h2]
  ·have : (n == k)=false:=by simpa using fun h=>hk h.symm
   rw [this,if_neg hk];exact findNow_is h3
theorem idxM_none : ∀ {es:List (List UInt8 × Value)} {n:List UInt8} {i:Nat} {v:Value},idxM es n i=none→putM es n v=es ++ [(n,v)]
 | [],_,_,_,_=>rfl
 | (k,u) :: r,n,i,v,h=>by
  rw [idxM] at h;split at h
  ·cases h
  ·next hk=>rw [putM,if_neg hk,idxM_none h];rfl
theorem idxM_some : ∀ {es:List (List UInt8 × Value)} {n:List UInt8} {i j:Nat} {u v:Value},idxM es n i=some (j,u)→i≤j∧es[j - i]?=some (n,u)∧putM es n v=es.modify (j - i) fun p=>(p.1,v)
 | [],_,_,_,_,_,h=>by cases h
 | (k,u) :: r,n,i,j,u',v,h=>by
  rw [idxM] at h;split at h
  ·next hk=>cases h;subst hk;simp [putM]
  ·next hk=>
   obtain⟨h1,h2,h3⟩:=idxM_some (v:=v) h;obtain⟨d,rfl⟩ : ∃ d,j=i + 1 + d:=⟨j - (i + 1),by omega⟩
   rw [show i + 1 + d - (i + 1)=d by omega] at h2 h3;rw [show i + 1 + d - i=d + 1 by omega,putM,if_neg hk,h3];exact⟨by omega,by simpa using h2,by simp⟩
theorem MapIs.kept {S:List Nat} {w w':World} {b:Nat} {es:List (List UInt8 × Value)} (h:MapIs w b es) (hc:Chg S w w') (hn : b∉S):MapIs w' b es:=by
 obtain⟨arr,clock,hb,he⟩:=h;exact⟨arr,clock,by rw [hc.block b (Array.getElem?_eq_some_iff.1 hb).1 hn];exact hb,he⟩
theorem MapIs.lt {w:World} {b:Nat} {es:List (List UInt8 × Value)} (h:MapIs w b es) : b < w.heap.size:=by
 obtain⟨arr,clock,hb,he⟩:=h;exact(Array.getElem?_eq_some_iff.1 hb).1
theorem MapIs.made (w:World):MapIs (w.alloc (.map #[] 0)) w.heap.size []:=⟨#[],0,heap_alloc_new w _,rfl⟩
section
variable {P:Program} {T K E:TypeId} {w:World} {b:Nat} {es:List (List UInt8 × Value)} {z:Value}
theorem run_getM (hT:P.underlying T=some (.map K E)) (hK:P.underlying K=some .string) (hz : (zeroValue E).run P w = .ok z w) (h:MapIs w b es) (n:List UInt8) :
  (Instr.lookup T (.map (some b)) (str n) false).run P w = .ok ((getM es n).getD z) w:=by
 obtain⟨arr,clock,hb,he⟩:=h;have hf:=findNow_is (n:=n) (i:=0) he;rw [← idxM_get es n 0];cases hi : idxM es n 0 with
 | none=>rw [hi] at hf;simp [Instr.lookup,run_underlying hT,Go.MapKept.run_getObj_map hb,Go.MapKept.run_checkKey (d:=.string) (k:=str n) hK trivial,Go.MapKept.run_findKey hK hf,hz,Result.andThen]
 | some p=>obtain⟨i,u⟩:=p;rw [hi] at hf;simp [Instr.lookup,run_underlying hT,Go.MapKept.run_getObj_map hb,Go.MapKept.run_checkKey (d:=.string) (k:=str n) hK trivial,Go.MapKept.run_findKey hK hf,Result.andThen]
theorem run_getMok (hT:P.underlying T=some (.map K E)) (hK:P.underlying K=some .string) (hz : (zeroValue E).run P w = .ok z w) (h:MapIs w b es) (n:List UInt8) :
  (Instr.lookup T (.map (some b)) (str n) true).run P w = .ok (.tuple #[(getM es n).getD z,.bool (getM es n).isSome]) w:=by
 obtain⟨arr,clock,hb,he⟩:=h;have hf:=findNow_is (n:=n) (i:=0) he;rw [← idxM_get es n 0];cases hi : idxM es n 0 with
 | none=>rw [hi] at hf;simp [Instr.lookup,run_underlying hT,Go.MapKept.run_getObj_map hb,Go.MapKept.run_checkKey (d:=.string) (k:=str n) hK trivial,Go.MapKept.run_findKey hK hf,hz,Result.andThen]
 | some p=>obtain⟨i,u⟩:=p;rw [hi] at hf;simp [Instr.lookup,run_underlying hT,Go.MapKept.run_getObj_map hb,Go.MapKept.run_checkKey (d:=.string) (k:=str n) hK trivial,Go.MapKept.run_findKey hK hf,Result.andThen]
theorem run_getNok (hT:P.underlying T=some (.map K E)) (hK:P.underlying K=some .string) (hz : (zeroValue E).run P w = .ok z w) (n:List UInt8) (ok:Bool) :
  (Instr.lookup T (.map none) (str n) ok).run P w = .ok (if ok then .tuple #[z,.bool false] else z) w:=by
 have hf:Instr.findNow .string (str n) [] 0=some none:=rfl;cases ok <;> simp [Instr.lookup,run_underlying hT,Go.MapKept.run_checkKey (d:=.string) (k:=str n) hK trivial,Go.MapKept.run_findKey hK hf,hz,Result.andThen]
theorem run_putM (hT:P.underlying T=some (.map K E)) (hK:P.underlying K=some .string) (h:MapIs w b es) (n:List UInt8) (v:Value) :
  ∃ w',(Instr.mapUpdate T (.map (some b)) (str n) v).run P w = .ok () w'∧MapIs w' b (putM es n v)∧Chg [b] w w':=by
 obtain⟨arr,clock,hb,he⟩:=h;have hlt:=(Array.getElem?_eq_some_iff.1 hb).1;have hf:=findNow_is (n:=n) (i:=0) he;have hck : ∀ o:Obj,Chg [b] w { w with heap:=w.heap.setIfInBounds b o }:=fun o=>⟨rfl,rfl,rfl,by simp,fun k _ hk=>by
  show (w.heap.setIfInBounds b _)[k]?=_
  rw [Array.getElem?_setIfInBounds_ne (fun e=>hk (by simp [e]))]⟩
 cases hi : idxM es n 0 with
 | none=>
  rw [hi] at hf;refine⟨{ w with heap:=w.heap.setIfInBounds b (.map (arr.push { key:=str n,val:=v,born:=clock }) (clock + 1)) },by simp [Instr.mapUpdate,run_underlying hT,Go.MapKept.run_getObj_map hb,Go.MapKept.run_checkKey (d:=.string) (k:=str n) hK trivial,Go.MapKept.run_findKey hK hf,Go.MapKept.run_setObj_map _ hb,Result.andThen],⟨_,_,by simp [hlt];exact⟨rfl,rfl⟩,?_⟩,hck _⟩;rw [idxM_none hi];simp [he]
 | some p=>
  obtain⟨j,u⟩:=p;rw [hi] at hf;obtain⟨_,h2,h3⟩:=idxM_some (v:=v) hi;rw [Nat.sub_zero] at h2 h3;have hj : ∃ e,arr[j]?=some e∧e.key=str n:=by
   have:=congrArg (fun l=>l[j]?) he;simp only [List.getElem?_map,h2,Option.map_some] at this;cases ha : arr.toList[j]? with
   | none=>rw [ha] at this;simp at this
   | some e=>rw [ha] at this;simp at this;exact⟨e,by simpa using ha,this.1⟩
  obtain⟨e,hj,hk⟩:=hj;refine⟨{ w with heap:=w.heap.setIfInBounds b (.map (arr.modify j fun e=>{ e with key:=str n,val:=v }) clock) },by simp [Instr.mapUpdate,run_underlying hT,Go.MapKept.run_getObj_map hb,Go.MapKept.run_checkKey (d:=.string) (k:=str n) hK trivial,Go.MapKept.run_findKey hK hf,hj,hk,Go.MapKept.run_keyThatStays (d:=.string) (k:=str n) trivial,Go.MapKept.run_setObj_map _ hb,Result.andThen],⟨_,_,by simp [hlt];exact⟨rfl,rfl⟩,?_⟩,hck _⟩;rw [h3]
  apply List.ext_getElem?
  intro i;have hi':=congrArg (fun l=>l[i]?) he;simp only [List.getElem?_map] at hi';simp only [List.getElem?_map,Array.toList_modify,List.getElem?_modify];by_cases hij : j=i
  ·subst hij
   rw [h2];have : arr.toList[j]?=some e:=by simpa using hj
   rw [this];simp
  ·simp only [if_neg hij]
   cases ha : arr.toList[i]? <;> cases hb' : es[i]? <;> simp_all
end
def HadIs (w:World) (b:Nat) (had:List (List UInt8)):Prop:=∃ es,MapIs w b es ∧ ∀ n,getM es n=if n∈had then some (.bool true) else none
theorem HadIs.kept {S:List Nat} {w w':World} {b:Nat} {had:List (List UInt8)} (h:HadIs w b had) (hc:Chg S w w') (hn : b∉S):HadIs w' b had:=by
 obtain⟨es,h1,h2⟩:=h;exact⟨es,h1.kept hc hn,h2⟩
theorem HadIs.made (w:World):HadIs (w.alloc (.map #[] 0)) w.heap.size []:=⟨[],MapIs.made w,fun n=>by simp [getM]⟩
def SeenAt (w:World) (F:Nat→Prop) (seen:List UInt8→Option (List Sy)) (v:Value):Prop:=
 (v = .map none ∧ ∀ n,seen n=none) ∨ ∃ b es,v = .map (some b)∧F b∧MapIs w b es ∧ ∀ n,match seen n with
  | none=>getM es n=none
  | some l=>l.length≤1000 ∧ ∃ u,getM es n=some u∧SymsAt w F l u
theorem SeenAt.kept {S:List Nat} {w w':World} {F:Nat→Prop} {seen:List UInt8→Option (List Sy)} {v:Value} (h:SeenAt w F seen v) (hc:Chg S w w') (hS : ∀ x∈S,¬ F x):SeenAt w' F seen v:=by
 rcases h with h|⟨b,es,h1,h2,h3,h4⟩
 ·exact .inl h
 ·refine .inr ⟨b,es,h1,h2,h3.kept hc fun hm=>hS _ hm h2,fun n=>?_⟩
  have:=h4 n;cases hs : seen n with
  | none=>rw [hs] at this;exact this
  | some l=>
   rw [hs] at this;obtain⟨h5,u,h6,h7⟩:=this;exact⟨h5,u,h6,h7.kept hc hS⟩
theorem SeenAt.mono {w:World} {F G:Nat→Prop} {seen:List UInt8→Option (List Sy)} {v:Value} (h:SeenAt w F seen v) (hF : ∀ x,F x→G x):SeenAt w G seen v:=by
 rcases h with h|⟨b,es,h1,h2,h3,h4⟩
 ·exact .inl h
 ·refine .inr ⟨b,es,h1,hF _ h2,h3,fun n=>?_⟩
  have:=h4 n;cases hs : seen n with
  | none=>rw [hs] at this;exact this
  | some l=>
   rw [hs] at this;obtain⟨h5,u,h6,h7⟩:=this;exact⟨h5,u,h6,h7.mono hF⟩
structure EnvAt (w:World) (F:Nat→Prop) (c:Env) (bc:Nat):Prop where
 own:F bc
 fewi : c.imports.length≤1000
 fewl : c.locals.length≤1000
 fewv : c.vars.length≤1000
 fewp : c.procs.length≤1000
 at_ : ∃ nm vi vv vp vb vm vl,Blk w bc #[str nm,vi,vv,vp,vb,vm,vl] 157∧NamesAt w F c.imports vi∧GlobsAt w F c.vars vv∧ProcsL w F c.procs vp∧SeenAt w F c.seen vm∧NamesAt w F c.locals vl
theorem EnvAt.kept {S:List Nat} {w w':World} {F:Nat→Prop} {c:Env} {bc:Nat} (h:EnvAt w F c bc) (hc:Chg S w w') (hS : ∀ x∈S,¬ F x):EnvAt w' F c bc:=by
 obtain⟨nm,vi,vv,vp,vb,vm,vl,h1,h2,h3,h4,h5,h6⟩:=h.at_;exact⟨h.own,h.fewi,h.fewl,h.fewv,h.fewp,nm,vi,vv,vp,vb,vm,vl,h1.kept hc fun hm=>hS _ hm h.own,h2.kept hc hS,h3.kept hc hS,h4.kept hc hS,h5.kept hc hS,h6.kept hc hS⟩
abbrev thrown (b:Nat):Ending:=.panicked [{ v:=.iface 149 (.agg #[.iface 140 (ptr b)]),recovered:=false }]
def Looked (S:List Nat) (w:World) (r:Look) (e:Ending) (w':World):Prop:=Chg S w w'∧match r with
 | none=>e = .returned (.tuple #[])
 | some (en,p)=>∃ b,e=thrown b∧w.heap.size≤b∧Blk w' b #[.int .i64 en,.int .i64 p] 142
theorem Looked.after {S:List Nat} {w w1 w':World} {r:Look} {e:Ending} (h:Looked S w1 r e w') (hc:Chg S w w1):Looked S w r e w':=by
 refine⟨hc.then h.1,?_⟩;have:=h.2;cases r with
 | none=>exact this
 | some x=>
  obtain⟨b,h1,h2,h3⟩:=this;have:=hc.size;exact⟨b,h1,by omega,h3⟩
end Go.Mq.Check
namespace Go.Mq.Check
open Go Go.RowKit Go.Mq Go.Mq.Tree Go.Mq.Sym
theorem getD_had {es:List (List UInt8 × Value)} {had:List (List UInt8)} {n:List UInt8} (h : ∀ n,getM es n=if n∈had then some (.bool true) else none) : (getM es n).getD (.bool false) = .bool (decide (n∈had)):=by
 rw [h];by_cases hn : n∈had <;> simp [hn]
end Go.Mq.Check
namespace Go.Proofs.YtechofppmnnomaaGreatDoor
open Go Go.RowKit Go.Mq Go.Mq.Tree Go.Mq.Sym Go.Mq.Check
set_option maxRecDepth 100000
set_option maxHeartbeats 2000000
theorem zero_bool (w:World) : (zeroValue 4).run Tryz.prog w = .ok (.bool false) w:=by kernel_rfl
theorem zero_syms (w:World) : (zeroValue 120).run Tryz.prog w = .ok nils w:=by kernel_rfl
theorem cfail_any (en p:Nat) (w:World):Calls Tryz.prog 112 #[.int .i64 en,.int .i64 p] w (Looked [] w (some (en,p))):=by
 go_enter Tryz.func112,Tryz.ntmps112
 go_wp2_with fail;exact⟨rfl,(Chg.refl _ _).alloc _,w.heap.size,rfl,Nat.le_refl _,Blk.new _ _ _⟩
theorem once_any (had:List (List UInt8)) (n:List UInt8) (p b:Nat) (w:World) (h:HadIs w b had) :
  Calls Tryz.prog 78 #[.map (some b),str n,.int .i64 p] w (fun e w'=>if n∈had then Looked [b] w (some (9,p)) e w' else e = .returned (.tuple #[])∧Chg [b] w w'∧HadIs w' b (n :: had)):=by
 obtain⟨es,hm,hes⟩:=h;have hl:=run_getM (P:=Tryz.prog) Tryz.underlying152 Tryz.underlying9 (zero_bool w) hm n;rw [getD_had hes] at hl;by_cases hn : n∈had
 ·rw [show decide (n∈had)=true by simpa using hn] at hl
  simp only [if_pos hn];have HF:=zh (cfail_any 9 p w);clear hm hes hn
  go_enter Tryz.func78,Tryz.ntmps78
  go_wp2_with fail;refine HF.out.mono ?_;rintro _ w1 ⟨hc,b1,rfl,hlt,hb⟩;have HC:=zh hc;have HB:=zh hb;clear hc hb;go_wp2_with fail;exact⟨rfl,HC.out.mono (by simp),b1,rfl,hlt,HB.out⟩
 ·rw [show decide (n∈had)=false by simpa using hn] at hl
  simp only [if_neg hn];obtain⟨w',hu,hm',hc'⟩:=run_putM (P:=Tryz.prog) Tryz.underlying152 Tryz.underlying9 hm n (.bool true);have HM:=zh (show HadIs w' b (n :: had) from⟨_,hm',fun x=>by
   rw [getM_put,hes];by_cases hx : n=x
   ·subst hx;simp
   ·rw [if_neg hx];simp [Ne.symm hx]⟩)
  have HC:=zh hc';clear hm hes hn hm' hc'
  go_enter Tryz.func78,Tryz.ntmps78
  go_wp2_with fail;refine bodyPost_end (results_none rfl _ _ _) rfl ?_;exact⟨rfl,HC.out,HM.out⟩
theorem indexs_in (l:List (List UInt8)) (hl : l.length≤1000) (n:List UInt8) (F:Nat→Prop) (v:Value) (w:World) (h:NamesAt w F l v) :
  Calls Tryz.prog 48 #[v,str n] w (fun e w'=>∃ r:Int,e = .returned (.int .i64 r) ∧ -1≤r∧r≤1000∧decide (0≤r)=decide (n∈l)∧w'=w):=by
 obtain⟨a,c,rfl,hac,hrow⟩:=h;have HROW:=zh hrow;clear hrow
 go_enter Tryz.func48,Tryz.ntmps48
 go_wp2_with fail
 go_loopw [5,8] (fun _ i wr=>∃ k:Nat,i = .int .i64 k∧k≤l.length∧w=wr ∧ ∀ (i:Nat) (x:List UInt8),i < k→l[i]?=some x→x≠n) (fun _ i _=>l.length - (intOf i).toNat)
 case atStart=>exact⟨0,rfl,Nat.zero_le _,rfl,fun i x hi=>by omega⟩
 case round=>
  obtain⟨k,rfl,hk,rfl,hno⟩:=hrel;have HNO:=zh hno;clear hno;by_cases hlt : k < l.length
  ·obtain⟨x,hs⟩ : ∃ x,l[k]?=some x:=⟨l[k],List.getElem?_eq_getElem hlt⟩
   obtain⟨b,o,rfl,d0⟩:=names_cell HROW.out hs;have HS:=zh hs;clear hs;cases hq : (n == x) with
   | true=>
    have HIN:=zh (show n∈l by
     have : n=x:=by simpa using hq
     rw [this];exact List.mem_of_getElem? HS.out)
    go_wp2_with fail;go_ret
    exact⟨k,rfl,by omega,by omega,by simp [HIN.out],rfl⟩
   | false=>
    have HN:=zh (show x≠n by intro h;subst h;simp at hq);go_wp2_with fail;refine⟨⟨k + 1,by go_num,by omega,by first|rfl|trivial,fun i y hi hx=>?_⟩,by simp [intOf];omega⟩;by_cases he : i < k
    ·exact HNO.out i y he hx
    ·have : i=k:=by omega
     subst this;rw [HS.out] at hx;cases hx
     exact HN.out
  ·have hall : n∉l:=fun hn=>by
    obtain⟨i,hi⟩:=List.getElem?_of_mem hn;exact HNO.out i n (by have:=(List.getElem?_eq_some_iff.1 hi).1;omega) hi rfl
   have HA:=zh hall;clear hall;go_wp2_with fail;go_ret
   exact⟨-1,rfl,by omega,by omega,by simp [HA.out],rfl⟩
theorem contains_in (l:List (List UInt8)) (hl : l.length≤1000) (n:List UInt8) (F:Nat→Prop) (v:Value) (w:World) (h:NamesAt w F l v) :
  Calls Tryz.prog 22 #[v,str n] w (fun e w'=>e = .returned (.bool (decide (n∈l)))∧w'=w):=by
 have HI:=zh (indexs_in l hl n F v w h);clear h
 go_enter Tryz.func22,Tryz.ntmps22
 go_wp2_with fail;refine HI.out.mono ?_;rintro _ w1 ⟨r,rfl,h0,h1,hq,hw⟩;have HQ:=zh hq;have HW:=zh hw;clear hq hw;go_wp2_with fail;go_ret
 exact⟨by rw [← HQ.out];simp,HW.out⟩
theorem isg_any (g:Glob) (n:List UInt8) (be b0:Nat) (c0 c1 c2 c3 c5 c6 c7 c8:Value) (w:World) (hx : w.cell? ⟨b0,0,none⟩=some (ptr be)) (hb:Blk w be #[c0,c1,c2,c3,str n,c5,c6,c7,c8] 192) :
  Calls Tryz.prog 183 #[.agg #[str g.name,.int .i64 g.pos,.int .i64 g.len,.bool g.seen],ptr b0] w (fun e w'=>e = .returned (.bool (g.name == n))∧Chg [] w w'):=by
 have hx':=((Chg.refl [] w).alloc (.cells #[str g.name,.int .i64 g.pos,.int .i64 g.len,.bool g.seen] 68)).cellSome hx (by simp);have d4:=((Chg.refl [] w).alloc (.cells #[str g.name,.int .i64 g.pos,.int .i64 g.len,.bool g.seen] 68)).cellSome (hb.cell 4 _ rfl) (by simp);have n0 : b0≠w.heap.size:=by have:=lt_of_cell hx;simp at this;omega
 have n1 : be≠w.heap.size:=by have:=hb.lt;omega
 have z:=Blk.new w #[str g.name,.int .i64 g.pos,.int .i64 g.len,.bool g.seen] 68;have z0:=z.cell 0 _ rfl;clear hx hb z
 go_enter Tryz.func183,Tryz.ntmps183
 go_wp2_with fail
 go_region
 all_goals (try go_wp2_with fail)
 all_goals go_ret
 all_goals exact⟨rfl,((Chg.refl _ _).alloc _).drew⟩
end Go.Proofs.YtechofppmnnomaaGreatDoor
namespace Go.Mq.Check
open Go Go.RowKit Go.Mq Go.Mq.Tree Go.Mq.Sym
theorem split_at {α:Type} {l:List α} {k:Nat} {x : α} (h : l[k]?=some x) : l=l.take k ++ x :: l.drop (k + 1)∧(l.take k).length=k:=by
 obtain⟨hk,he⟩:=List.getElem?_eq_some_iff.1 h;refine⟨?_,by simp;omega⟩;rw [← he,← List.drop_eq_getElem_cons hk,List.take_append_drop]
theorem flat4 : ∀ l:List Glob,(l.flatMap Glob.cells).length=l.length * 4
 | []=>rfl
 | x :: r=>by rw [List.flatMap_cons,List.length_append,flat4 r];simp [Glob.cells];omega
theorem glob_cells {w:World} {F:Nat→Prop} {a:Option Addr} {l:List Glob} (h:Row w F a (l.flatMap Glob.cells)) {k:Nat} {g:Glob} (hk : l[k]?=some g) :
  ∃ bb off,a=some ⟨bb,off,none⟩∧w.cell? ⟨bb,off + k * 4,none⟩=some (str g.name)∧w.cell? ⟨bb,off + k * 4 + 1,none⟩=some (.int .i64 g.pos)∧w.cell? ⟨bb,off + k * 4 + 2,none⟩=some (.int .i64 g.len)∧w.cell? ⟨bb,off + k * 4 + 3,none⟩=some (.bool g.seen):=by
 obtain⟨h1,h2⟩:=split_at hk;rw [h1,List.flatMap_append,List.flatMap_cons] at h;exact cells4S (cs':=(l.drop (k + 1)).flatMap Glob.cells) h (by rw [flat4,h2])
theorem prsL_at : ∀ {l:List Proc} {cs:List Value} {k:Nat} {x:Proc},PrsL l cs→l[k]?=some x → ∃ cs1 c cs',cs=cs1 ++ (c ++ cs')∧cs1.length=k * 6∧PrL x c
 | [],_,_,_,_,hk=>by simp at hk
 | y :: r,_,0,x,h,hk=>by
  obtain⟨c1,c2,rfl,h1,h2⟩:=h;simp at hk;subst hk
  exact⟨[],c1,c2,rfl,rfl,h1⟩
 | y :: r,_,k + 1,x,h,hk=>by
  obtain⟨c1,c2,rfl,⟨_,_,_,_,_,_,_,_,_,rfl⟩,h2⟩:=h;obtain⟨cs1,c,cs',rfl,hl,hp⟩:=prsL_at h2 (by simpa using hk);exact⟨_ ++ cs1,c,cs',by rw [List.append_assoc],by simp [hl];omega,hp⟩
theorem proc_cells {w:World} {F:Nat→Prop} {l:List Proc} {v:Value} (h:ProcsL w F l v) {k:Nat} {x:Proc} (hk : l[k]?=some x) :
  ∃ (bb off c:Nat) (pos:Int) (a1:Option Addr) (k1:Nat) (a2:Option Addr) (n2 k2:Nat) (a3:Option Addr) (n3 k3:Nat),v = .slice (some ⟨bb,off,none⟩) l.length c∧l.length≤c∧w.cell? ⟨bb,off + k * 6,none⟩=some (str x.name)∧w.cell? ⟨bb,off + k * 6 + 1,none⟩=some (.int .i64 pos) ∧
   w.cell? ⟨bb,off + k * 6 + 2,none⟩=some (.bool x.seen)∧w.cell? ⟨bb,off + k * 6 + 3,none⟩=some (.slice a1 x.params.length k1)∧w.cell? ⟨bb,off + k * 6 + 4,none⟩=some (.slice a2 n2 k2)∧w.cell? ⟨bb,off + k * 6 + 5,none⟩=some (.slice a3 n3 k3):=by
 obtain⟨a,c,cs,rfl,hlc,hrow,hps⟩:=h;obtain⟨cs1,d,cs',rfl,hl,pos,a1,k1,a2,n2,k2,a3,n3,k3,rfl⟩:=prsL_at hps hk;obtain⟨bb,off,rfl,d0,d1,d2,d3,d4,d5⟩:=cells6S (cs':=cs') hrow hl;exact⟨bb,off,c,pos,a1,k1,a2,n2,k2,a3,n3,k3,rfl,hlc,d0,d1,d2,d3,d4,d5⟩
theorem find_at {α:Type} {f : α→Bool} {l:List α} {k:Nat} {x : α} (hk : l[k]?=some x) (hx : f x=true) (hb : ∀ (i:Nat) (y : α),i < k→l[i]?=some y→f y=false) : l.find? f=some x:=by
 obtain⟨h1,h2⟩:=split_at hk;rw [h1,List.find?_append];have : (l.take k).find? f=none:=List.find?_eq_none.2 fun y hy=>by
  obtain⟨i,hi⟩:=List.getElem?_of_mem hy;have hik : i < k:=by have:=(List.getElem?_eq_some_iff.1 hi).1;omega
  rw [List.getElem?_take_of_lt hik] at hi;rw [hb i y hik hi];simp
 rw [this];simp [hx]
theorem find_no {α:Type} {f : α→Bool} {l:List α} (hb : ∀ (i:Nat) (y : α),l[i]?=some y→f y=false) : l.find? f=none:=List.find?_eq_none.2 fun y hy=>by
 obtain⟨i,hi⟩:=List.getElem?_of_mem hy;rw [hb i y hi];simp
def At1 {α:Type} (l:List α) (f : α→Bool) (e:Ending):Prop:=match l.find? f with
 | none=>e = .returned (.int .i64 (-1))
 | some x=>∃ k:Nat,l[k]?=some x∧e = .returned (.int .i64 k)
def FoundAt (w:World) (g:Got) (e:Ending) (w':World):Prop:=match g with
 | .is s=>Chg [] w w'∧e = .returned (.agg #[str s.name,.int .i64 s.len,.int .i64 s.args])
 | .bad en p=>Looked [] w (some (en,p)) e w'
end Go.Mq.Check
namespace Go.Proofs.YtechofppmnnomaaGreatDoor
open Go Go.RowKit Go.Mq Go.Mq.Tree Go.Mq.Sym Go.Mq.Check
set_option maxRecDepth 100000
set_option maxHeartbeats 2000000
theorem isp_any (x:Proc) (n:List UInt8) (pos:Int) (a1:Option Addr) (k1:Nat) (a2:Option Addr) (n2 k2:Nat) (a3:Option Addr) (n3 k3:Nat) (be b0:Nat) (c0 c1 c2 c3 c5 c6 c7 c8:Value) (w:World) (hx : w.cell? ⟨b0,0,none⟩=some (ptr be)) (hb:Blk w be #[c0,c1,c2,c3,str n,c5,c6,c7,c8] 192) :
  Calls Tryz.prog 184 #[.agg #[str x.name,.int .i64 pos,.bool x.seen,.slice a1 x.params.length k1,.slice a2 n2 k2,.slice a3 n3 k3],ptr b0] w (fun e w'=>e = .returned (.bool (x.name == n))∧Chg [] w w'):=by
 have hx':=((Chg.refl [] w).alloc (.cells #[str x.name,.int .i64 pos,.bool x.seen,.slice a1 x.params.length k1,.slice a2 n2 k2,.slice a3 n3 k3] 72)).cellSome hx (by simp);have d4:=((Chg.refl [] w).alloc (.cells #[str x.name,.int .i64 pos,.bool x.seen,.slice a1 x.params.length k1,.slice a2 n2 k2,.slice a3 n3 k3] 72)).cellSome (hb.cell 4 _ rfl) (by simp);have n0 : b0≠w.heap.size:=by have:=lt_of_cell hx;simp at this;omega
 have n1 : be≠w.heap.size:=by have:=hb.lt;omega
 have z:=Blk.new w #[str x.name,.int .i64 pos,.bool x.seen,.slice a1 x.params.length k1,.slice a2 n2 k2,.slice a3 n3 k3] 72;have z0:=z.cell 0 _ rfl;clear hx hb z
 go_enter Tryz.func184,Tryz.ntmps184
 go_wp2_with fail
 go_region
 all_goals (try go_wp2_with fail)
 all_goals go_ret
 all_goals exact⟨rfl,((Chg.refl _ _).alloc _).drew⟩
theorem indexg_any (l:List Glob) (hl : l.length≤1000) (n:List UInt8) (be b0:Nat) (c0 c1 c2 c3 c5 c6 c7 c8:Value) (F:Nat→Prop) (v:Value) (w:World) (h:GlobsAt w F l v) (hx : w.cell? ⟨b0,0,none⟩=some (ptr be)) (hb:Blk w be #[c0,c1,c2,c3,str n,c5,c6,c7,c8] 192) :
  Calls Tryz.prog 56 #[v,.func (.func 183) #[] #[ptr b0]] w (fun e w'=>At1 l (fun g=>g.name == n) e∧Chg [] w w'):=by
 obtain⟨a,c,rfl,hac,hrow⟩:=h;have HROW:=zh hrow;have HX:=zh hx;have HB:=zh hb;clear hrow hx hb
 go_enter Tryz.func56,Tryz.ntmps56
 go_wp2_with fail
 go_loopw [5,8] (fun _ i wr=>∃ k:Nat,i = .int .i64 k∧k≤l.length∧Chg [] w wr ∧ ∀ (i:Nat) (x:Glob),i < k→l[i]?=some x→(x.name == n)=false) (fun _ i _=>l.length - (intOf i).toNat)
 case atStart=>exact⟨0,rfl,Nat.zero_le _,Chg.refl _ _,fun i x hi=>by omega⟩
 case round=>
  obtain⟨k,rfl,hk,hc,hno⟩:=hrel;have HNO:=zh hno;have HC:=zh hc;clear hno hc;by_cases hlt : k < l.length
  ·obtain⟨s,hs⟩ : ∃ s,l[k]?=some s:=⟨l[k],List.getElem?_eq_getElem hlt⟩
   obtain⟨bb,off,rfl,d0,d1,d2,d3⟩:=glob_cells (HROW.out.kept HC.out (by simp)) hs;have HS:=zh hs;have HI:=zh (isg_any s n be b0 c0 c1 c2 c3 c5 c6 c7 c8 wr (HC.out.cellSome HX.out (by simp)) (HB.out.kept HC.out (by simp)));clear hs;cases hq : (s.name == n) with
   | true=>
    rw [hq] at HI;have HR:=zh (show l.find? (fun g=>g.name == n)=some s from find_at HS.out hq HNO.out);clear hq;go_wp2_with fail;refine HI.out.mono ?_;rintro _ w2 ⟨rfl,hq⟩;have HQ:=zh (HC.out.then hq);clear hq;go_wp2_with fail;go_ret
    refine⟨?_,HQ.out⟩;rw [At1,HR.out];exact⟨k,HS.out,rfl⟩
   | false=>
    rw [hq] at HI;have HN:=zh hq;clear hq;go_wp2_with fail;refine HI.out.mono ?_;rintro _ w2 ⟨rfl,hq⟩;have HQ:=zh (HC.out.then hq);clear hq;go_wp2_with fail;refine⟨⟨k + 1,by go_num,by omega,HQ.out,fun i x hi hx=>?_⟩,by simp [intOf];omega⟩;by_cases he : i < k
    ·exact HNO.out i x he hx
    ·have : i=k:=by omega
     subst this;rw [HS.out] at hx;cases hx
     exact HN.out
  ·have HR:=zh (show l.find? (fun g=>g.name == n)=none from find_no fun i x hx=>HNO.out i x (by have:=(List.getElem?_eq_some_iff.1 hx).1;omega) hx)
   go_wp2_with fail;go_ret
   exact⟨by rw [At1,HR.out] <;> rfl,HC.out⟩
theorem indexp_any (l:List Proc) (hl : l.length≤1000) (n:List UInt8) (be b0:Nat) (c0 c1 c2 c3 c5 c6 c7 c8:Value) (F:Nat→Prop) (v:Value) (w:World) (h:ProcsL w F l v) (hx : w.cell? ⟨b0,0,none⟩=some (ptr be)) (hb:Blk w be #[c0,c1,c2,c3,str n,c5,c6,c7,c8] 192) :
  Calls Tryz.prog 57 #[v,.func (.func 184) #[] #[ptr b0]] w (fun e w'=>At1 l (fun g=>g.name == n) e∧Chg [] w w'):=by
 have HPR:=zh h;obtain⟨a,c,cs,rfl,hac,hrow,hps⟩:=h;have HX:=zh hx;have HB:=zh hb;clear hrow hx hb hps
 go_enter Tryz.func57,Tryz.ntmps57
 go_wp2_with fail
 go_loopw [5,8] (fun _ i wr=>∃ k:Nat,i = .int .i64 k∧k≤l.length∧Chg [] w wr ∧ ∀ (i:Nat) (x:Proc),i < k→l[i]?=some x→(x.name == n)=false) (fun _ i _=>l.length - (intOf i).toNat)
 case atStart=>exact⟨0,rfl,Nat.zero_le _,Chg.refl _ _,fun i x hi=>by omega⟩
 case round=>
  obtain⟨k,rfl,hk,hc,hno⟩:=hrel;have HNO:=zh hno;have HC:=zh hc;clear hno hc;by_cases hlt : k < l.length
  ·obtain⟨s,hs⟩ : ∃ s,l[k]?=some s:=⟨l[k],List.getElem?_eq_getElem hlt⟩
   obtain⟨bb,off,cc,pos,a1,k1,a2,n2,k2,a3,n3,k3,hv,_,d0,d1,d2,d3,d4,d5⟩:=proc_cells (HPR.out.kept HC.out (by simp)) hs;simp only [Value.slice.injEq,true_and] at hv;obtain⟨rfl,rfl⟩:=hv;have HS:=zh hs;have HI:=zh (isp_any s n pos a1 k1 a2 n2 k2 a3 n3 k3 be b0 c0 c1 c2 c3 c5 c6 c7 c8 wr (HC.out.cellSome HX.out (by simp)) (HB.out.kept HC.out (by simp)));clear hs;cases hq : (s.name == n) with
   | true=>
    rw [hq] at HI;have HR:=zh (show l.find? (fun g=>g.name == n)=some s from find_at HS.out hq HNO.out);clear hq;go_wp2_with fail;refine HI.out.mono ?_;rintro _ w2 ⟨rfl,hq⟩;have HQ:=zh (HC.out.then hq);clear hq;go_wp2_with fail;go_ret
    refine⟨?_,HQ.out⟩;rw [At1,HR.out];exact⟨k,HS.out,rfl⟩
   | false=>
    rw [hq] at HI;have HN:=zh hq;clear hq;go_wp2_with fail;refine HI.out.mono ?_;rintro _ w2 ⟨rfl,hq⟩;have HQ:=zh (HC.out.then hq);clear hq;go_wp2_with fail;refine⟨⟨k + 1,by go_num,by omega,HQ.out,fun i x hi hx=>?_⟩,by simp [intOf];omega⟩;by_cases he : i < k
    ·exact HNO.out i x he hx
    ·have : i=k:=by omega
     subst this;rw [HS.out] at hx;cases hx
     exact HN.out
  ·have HR:=zh (show l.find? (fun g=>g.name == n)=none from find_no fun i x hx=>HNO.out i x (by have:=(List.getElem?_eq_some_iff.1 hx).1;omega) hx)
   go_wp2_with fail;go_ret
   exact⟨by rw [At1,HR.out] <;> rfl,HC.out⟩
end Go.Proofs.YtechofppmnnomaaGreatDoor
namespace Go.Mq.Check
open Go Go.RowKit Go.Mq Go.Mq.Tree Go.Mq.Sym
theorem getM_seen {w:World} {F:Nat→Prop} {seen:List UInt8→Option (List Sy)} {_b:Nat} {es:List (List UInt8 × Value)} {n:List UInt8} (h : match seen n with
  | none=>getM es n=none
  | some l=>l.length≤1000 ∧ ∃ u,getM es n=some u∧SymsAt w F l u) : ((seen n).getD []).length≤1000∧SymsAt w F ((seen n).getD []) ((getM es n).getD nils):=by
 cases hs : seen n with
 | none=>
  rw [hs] at h;simp only at h;rw [h];exact⟨by simp,none,0,rfl,Nat.le_refl _,Row.nil _ _ _,fun _=>rfl⟩
 | some l=>
  rw [hs] at h;obtain⟨h1,u,h2,h3⟩:=h;rw [h2];exact⟨h1,h3⟩
end Go.Mq.Check
namespace Go.Proofs.YtechofppmnnomaaGreatDoor
open Go Go.RowKit Go.Mq Go.Mq.Tree Go.Mq.Sym Go.Mq.Check
set_option maxRecDepth 100000
set_option maxHeartbeats 2000000
theorem look_seen {w:World} {F:Nat→Prop} {seen:List UInt8→Option (List Sy)} {v:Value} (h:SeenAt w F seen v) (n:List UInt8) : ∃ u,(∀ w',Chg [] w w'→(Instr.lookup 97 v (str n) false).run Tryz.prog w' = .ok u w') ∧
  (∀ w',Chg [] w w'→(Instr.lookup 97 v (str n) true).run Tryz.prog w' = .ok (.tuple #[u,.bool (seen n).isSome]) w')∧((seen n).getD []).length≤1000∧SymsAt w F ((seen n).getD []) u:=by
 rcases h with⟨rfl,h⟩|⟨b,es,rfl,_,hm,hs⟩
 ·refine⟨nils,fun w' _=>?_,fun w' _=>?_,by rw [h n];simp,?_⟩
  ·exact run_getNok Tryz.underlying97 Tryz.underlying9 (zero_syms w') n false
  ·rw [h n];exact run_getNok Tryz.underlying97 Tryz.underlying9 (zero_syms w') n true
  ·rw [h n];exact⟨none,0,rfl,Nat.le_refl _,Row.nil _ _ _,fun _=>rfl⟩
 ·have hn:=hs n
  have hi : (getM es n).isSome=(seen n).isSome:=by
   cases hsn : seen n with
   | none=>rw [hsn] at hn;simp only at hn;rw [hn] <;> rfl
   | some l=>rw [hsn] at hn;obtain⟨_,u,hu,_⟩:=hn;rw [hu] <;> rfl
  obtain⟨h1,h2⟩:=getM_seen (_b:=b) hn;refine⟨_,fun w' hc=>run_getM Tryz.underlying97 Tryz.underlying9 (zero_syms w') (hm.kept hc (by simp)) n,fun w' hc=>?_,h1,h2⟩;rw [← hi];exact run_getMok Tryz.underlying97 Tryz.underlying9 (zero_syms w') (hm.kept hc (by simp)) n
theorem cfind_any (c:Env) (bc be p:Nat) (m n:List UInt8) (c0 c2 c5 c6 c7 c8:Value) (F:Nat→Prop) (w:World) (hE:EnvAt w F c bc) (hx:Blk w be #[c0,.int .i64 p,c2,str m,str n,c5,c6,c7,c8] 192) :
  Calls Tryz.prog 165 #[ptr bc,ptr be] w (FoundAt w (c.find p m n)):=by
 have hmf : ∀ (fn:Fn) (first cap:Array Value) (w:World),(Instr.makeFunc fn first cap).run Tryz.prog w = .ok (.func fn first cap) w:=fun _ _ _ _=>rfl
 obtain⟨w0,hw0⟩ : ∃ w0,(w.alloc (.cells #[ptr be] 166)).alloc (.cells #[str [],.int .i64 0,.int .i64 0] 185)=w0:=⟨_,rfl⟩
 have hs1 : (w.alloc (.cells #[ptr be] 166)).heap.size=w.heap.size + 1:=by simp
 have hb:Blk w0 w.heap.size #[ptr be] 166:=by rw [← hw0];exact(Blk.new _ _ _).kept ((Chg.refl [] _).alloc _) (by simp)
 have hr:Blk w0 (w.heap.size + 1) #[str [],.int .i64 0,.int .i64 0] 185:=by rw [← hw0,← hs1];exact Blk.new _ _ _
 have hc0:Chg [] w w0:=by rw [← hw0];exact((Chg.refl _ _).alloc _).alloc _
 have hx0:=hx.kept hc0 (by simp);obtain⟨nm,vi,vv,vp,vb,vm,vl,hk,hni,hgv,hpv,hsv,hnl⟩:=(hE.kept hc0 (by simp)).at_;have b0:=hb.cell 0 _ rfl;have x1:=hx0.cell 1 _ rfl;have x3:=hx0.cell 3 _ rfl;have x4:=hx0.cell 4 _ rfl;have k1:=hk.cell 1 _ rfl;have k2:=hk.cell 2 _ rfl;have k3:=hk.cell 3 _ rfl;have k5:=hk.cell 5 _ rfl;have k6:=hk.cell 6 _ rfl;have HI:=hE.fewi;have HLO:=hE.fewl;have HVS:=hE.fewv;have HPS:=hE.fewp;have HC:=zh hc0;have HR:=zh hr;have HX:=zh hx0;have HB:=zh hb;have HK:=zh hk;have HNI:=zh hni;have HGV:=zh hgv;have HPV:=zh hpv;have HSV:=zh hsv;have HNL:=zh hnl;have hn1 : be≠w.heap.size:=by have:=hx.lt;omega
 clear hc0 hr hx0 hb hk hni hgv hpv hsv hnl hE hx hs1;have HC0:=zh (Chg.refl [] w0);have HCW:=zh HC.out;have HCT:=zh (show ∀ w',Chg [] w0 w'→Calls Tryz.prog 22 #[vl,str n] w' (fun e w''=>e = .returned (.bool (decide (n∈c.locals)))∧w''=w') from fun w' hc=>contains_in c.locals HLO n F vl w' (HNL.out.kept hc (by simp)));have HCM:=zh (show ∀ w',Chg [] w0 w'→Calls Tryz.prog 22 #[vi,str m] w' (fun e w''=>e = .returned (.bool (decide (m∈c.imports)))∧w''=w') from fun w' hc=>contains_in c.imports HI m F vi w' (HNI.out.kept hc (by simp)));have HIG:=zh (show ∀ w',Chg [] w0 w'→Calls Tryz.prog 56 #[vv,.func (.func 183) #[] #[ptr w.heap.size]] w' (fun e w''=>At1 c.vars (fun g=>g.name == n) e∧Chg [] w' w'') from fun w' hc=>indexg_any c.vars HVS n be w.heap.size c0 (.int .i64 p) c2 (str m) c5 c6 c7 c8 F vv w' (HGV.out.kept hc (by simp)) (hc.cellSome (HB.out.cell 0 _ rfl) (by simp)) (HX.out.kept hc (by simp)));have HIP:=zh (show ∀ w',Chg [] w0 w'→Calls Tryz.prog 57 #[vp,.func (.func 184) #[] #[ptr w.heap.size]] w' (fun e w''=>At1 c.procs (fun g=>g.name == n) e∧Chg [] w' w'') from fun w' hc=>indexp_any c.procs HPS n be w.heap.size c0 (.int .i64 p) c2 (str m) c5 c6 c7 c8 F vp w' (HPV.out.kept hc (by simp)) (hc.cellSome (HB.out.cell 0 _ rfl) (by simp)) (HX.out.kept hc (by simp)));cases m with
 | nil=>
  clear HCM;cases hl : decide (n∈c.locals) with
  | true=>
   rw [hl] at HCT;have HFD:=zh (show c.find p [] n = .is ⟨n,0,-1⟩ by rw [Env.find,if_neg (by simp),if_pos (by simpa using hl)]);clear hl
   go_enter Tryz.func165,Tryz.ntmps165
   go_wp2_with fail;obtain⟨wD,hwD⟩ : ∃ x,x=w0.drew:=⟨_,rfl⟩
   clear b0 x1 x3 x4 k1 k2 k3 k5 k6;have hWD:Chg [] w0 wD:=by rw [hwD];exact(Chg.refl [] w0).drew
   have HCW:=zh (HCW.out.then hWD);have HC0:=zh (HC0.out.then hWD);have HB:=zh (HB.out.kept hWD (by simp));have HX:=zh (HX.out.kept hWD (by simp));have HK:=zh (HK.out.kept hWD (by simp));have HR:=zh (HR.out.kept hWD (by simp));clear hWD;have b0 : wD.cell? ⟨w.heap.size,0,none⟩=_:=HB.out.cell 0 _ rfl;have x1 : wD.cell? ⟨be,1,none⟩=_:=HX.out.cell 1 _ rfl;have x3 : wD.cell? ⟨be,3,none⟩=_:=HX.out.cell 3 _ rfl;have x4 : wD.cell? ⟨be,4,none⟩=_:=HX.out.cell 4 _ rfl;have k1 : wD.cell? ⟨bc,1,none⟩=_:=HK.out.cell 1 _ rfl;have k2 : wD.cell? ⟨bc,2,none⟩=_:=HK.out.cell 2 _ rfl;have k3 : wD.cell? ⟨bc,3,none⟩=_:=HK.out.cell 3 _ rfl;have k5 : wD.cell? ⟨bc,5,none⟩=_:=HK.out.cell 5 _ rfl;have k6 : wD.cell? ⟨bc,6,none⟩=_:=HK.out.cell 6 _ rfl;have Z1:=zh (Zone.of (X:=[]) (w0:=wD) b0 (by simp));have Z2:=zh (Zone.of (X:=[]) (w0:=wD) x1 (by simp));have Z3:=zh (Zone.of (X:=[]) (w0:=wD) k1 (by simp));refine wp_region_C [] rfl (by kernel_rfl) ?_;rw [← hwD];clear hwD;have hS:Chg [] wD wD:=Chg.refl _ _
   repeat ((with_reducible show wpX _ _ _ _ _ _ _ _);(first|refine wpX_nil ?_|refine wpX_skip rfl ?_|refine wpX_mv rfl rfl (by kernel_rfl) (fun _ _=>?_)|refine wpX_ldC rfl rfl rfl (by first|exact Z1.out|exact Z2.out|exact Z3.out) (by assumption) (fun _ _=>?_)|refine wpX_ef' rfl rfl rfl (fun _ _=>?_));go_wp2_with fail)
   obtain⟨wF,hwF,hcF,hbF⟩:=set3 (str n) (.int .i64 0) (.int .i64 (-1)) HR.out;have r0 : wD.frozen? ⟨w.heap.size + 1,0,none⟩=_:=HR.out.frozen 0;have r1 : wD.frozen? ⟨w.heap.size + 1,1,none⟩=_:=HR.out.frozen 1;have r2 : wD.frozen? ⟨w.heap.size + 1,2,none⟩=_:=HR.out.frozen 2;have e0 : wD.cell? ⟨w.heap.size + 1,0,none⟩=_:=HR.out.cell 0 _ rfl;have e1 : wD.cell? ⟨w.heap.size + 1,1,none⟩=_:=HR.out.cell 1 _ rfl;have e2 : wD.cell? ⟨w.heap.size + 1,2,none⟩=_:=HR.out.cell 2 _ rfl;have f0:=hbF.cell 0 _ rfl;have f1:=hbF.cell 1 _ rfl;have f2:=hbF.cell 2 _ rfl;have HCF:=zh (show Chg [] w wF from HCW.out.trans hcF (fun x hx=>.inr (by simp at hx;omega)));clear hcF hbF;refine(HCT.out _ HC0.out).mono ?_;rintro _ _ ⟨rfl,hw⟩;have hw:=hw.symm;subst hw;go_wp2_with fail;refine And.intro hS ?_
   repeat ((with_reducible show wpX _ _ _ _ _ _ _ _);(first|refine wpX_nil ?_|refine wpX_skip rfl ?_|refine wpX_mv rfl rfl (by kernel_rfl) (fun _ _=>?_)|refine wpX_ldC rfl rfl rfl (by first|exact Z1.out|exact Z2.out|exact Z3.out) (by assumption) (fun _ _=>?_)|refine wpX_ef' rfl rfl rfl (fun _ _=>?_));go_wp2_with fail)
   clear hS Z1 Z2 Z3;go_wp2_with fail;refine bodyPost_ret (v:=.agg #[str n,.int .i64 0,.int .i64 (-1)]) (by simp [results,Tryz.results165,go_sem,f0,f1,f2]) rfl ?_;rw [HFD.out];exact⟨HCF.out,rfl⟩
  | false=>
   rw [hl] at HCT;have hnl : n∉c.locals:=by simpa using hl
   cases hg : c.vars.find? (fun g=>g.name == n) with
   | some g=>
    have HFD:=zh (show c.find p [] n = .is ⟨n,g.len,-1⟩ by rw [Env.find,if_neg (by simp),if_neg hnl,hg]);clear hl hnl
    go_enter Tryz.func165,Tryz.ntmps165
    go_wp2_with fail;obtain⟨wD,hwD⟩ : ∃ x,x=w0.drew:=⟨_,rfl⟩
    clear b0 x1 x3 x4 k1 k2 k3 k5 k6;have hWD:Chg [] w0 wD:=by rw [hwD];exact(Chg.refl [] w0).drew
    have HCW:=zh (HCW.out.then hWD);have HC0:=zh (HC0.out.then hWD);have HB:=zh (HB.out.kept hWD (by simp));have HX:=zh (HX.out.kept hWD (by simp));have HK:=zh (HK.out.kept hWD (by simp));have HR:=zh (HR.out.kept hWD (by simp));clear hWD;have b0 : wD.cell? ⟨w.heap.size,0,none⟩=_:=HB.out.cell 0 _ rfl;have x1 : wD.cell? ⟨be,1,none⟩=_:=HX.out.cell 1 _ rfl;have x3 : wD.cell? ⟨be,3,none⟩=_:=HX.out.cell 3 _ rfl;have x4 : wD.cell? ⟨be,4,none⟩=_:=HX.out.cell 4 _ rfl;have k1 : wD.cell? ⟨bc,1,none⟩=_:=HK.out.cell 1 _ rfl;have k2 : wD.cell? ⟨bc,2,none⟩=_:=HK.out.cell 2 _ rfl;have k3 : wD.cell? ⟨bc,3,none⟩=_:=HK.out.cell 3 _ rfl;have k5 : wD.cell? ⟨bc,5,none⟩=_:=HK.out.cell 5 _ rfl;have k6 : wD.cell? ⟨bc,6,none⟩=_:=HK.out.cell 6 _ rfl;have Z1:=zh (Zone.of (X:=[]) (w0:=wD) b0 (by simp));have Z2:=zh (Zone.of (X:=[]) (w0:=wD) x1 (by simp));have Z3:=zh (Zone.of (X:=[]) (w0:=wD) k1 (by simp));refine wp_region_C [] rfl (by kernel_rfl) ?_;rw [← hwD];clear hwD;have hS:Chg [] wD wD:=Chg.refl _ _
    repeat ((with_reducible show wpX _ _ _ _ _ _ _ _);(first|refine wpX_nil ?_|refine wpX_skip rfl ?_|refine wpX_mv rfl rfl (by kernel_rfl) (fun _ _=>?_)|refine wpX_ldC rfl rfl rfl (by first|exact Z1.out|exact Z2.out|exact Z3.out) (by assumption) (fun _ _=>?_)|refine wpX_ef' rfl rfl rfl (fun _ _=>?_));go_wp2_with fail)
    refine(HCT.out _ HC0.out).mono ?_;rintro _ _ ⟨rfl,hw⟩;have hw:=hw.symm;subst hw;go_wp2_with fail;refine And.intro hS ?_
    repeat ((with_reducible show wpX _ _ _ _ _ _ _ _);(first|refine wpX_nil ?_|refine wpX_skip rfl ?_|refine wpX_mv rfl rfl (by kernel_rfl) (fun _ _=>?_)|refine wpX_ldC rfl rfl rfl (by first|exact Z1.out|exact Z2.out|exact Z3.out) (by assumption) (fun _ _=>?_)|refine wpX_ef' rfl rfl rfl (fun _ _=>?_));go_wp2_with fail)
    clear hS Z1 Z2 Z3;go_wp2_with fail;refine(HIG.out _ HC0.out).mono ?_;rintro _ w2 ⟨hat,hc2⟩;rw [At1,hg] at hat;clear b0 x1 x3 x4 k1 k2 k3 k5 k6;have hWD:Chg [] wD w2:=hc2;have HCW:=zh (HCW.out.then hWD);have HC0:=zh (HC0.out.then hWD);have HB:=zh (HB.out.kept hWD (by simp));have HX:=zh (HX.out.kept hWD (by simp));have HK:=zh (HK.out.kept hWD (by simp));have HR:=zh (HR.out.kept hWD (by simp));clear hWD;have b0 : w2.cell? ⟨w.heap.size,0,none⟩=_:=HB.out.cell 0 _ rfl;have x1 : w2.cell? ⟨be,1,none⟩=_:=HX.out.cell 1 _ rfl;have x3 : w2.cell? ⟨be,3,none⟩=_:=HX.out.cell 3 _ rfl;have x4 : w2.cell? ⟨be,4,none⟩=_:=HX.out.cell 4 _ rfl;have k1 : w2.cell? ⟨bc,1,none⟩=_:=HK.out.cell 1 _ rfl;have k2 : w2.cell? ⟨bc,2,none⟩=_:=HK.out.cell 2 _ rfl;have k3 : w2.cell? ⟨bc,3,none⟩=_:=HK.out.cell 3 _ rfl;have k5 : w2.cell? ⟨bc,5,none⟩=_:=HK.out.cell 5 _ rfl;have k6 : w2.cell? ⟨bc,6,none⟩=_:=HK.out.cell 6 _ rfl;clear hc2;obtain⟨k,hk,rfl⟩:=hat;have hlt : k < c.vars.length:=(List.getElem?_eq_some_iff.1 hk).1;obtain⟨av,cv,hvv,_,hvr⟩:=HGV.out.kept HC0.out (by simp);obtain⟨bb,off,rfl,_,_,d2,_⟩:=glob_cells hvr hk;subst hvv;have HD2:=zh d2;clear hvr hk d2;go_wp2_with fail;have HD2:=zh (show w2.drew.cell? _=_ from HD2.out);obtain⟨wE,hwD⟩ : ∃ x,x=w2.drew:=⟨_,rfl⟩
    clear b0 x1 x3 x4 k1 k2 k3 k5 k6;have hWD:Chg [] w2 wE:=by rw [hwD];exact(Chg.refl [] w2).drew
    have HCW:=zh (HCW.out.then hWD);have HC0:=zh (HC0.out.then hWD);have HB:=zh (HB.out.kept hWD (by simp));have HX:=zh (HX.out.kept hWD (by simp));have HK:=zh (HK.out.kept hWD (by simp));have HR:=zh (HR.out.kept hWD (by simp));clear hWD;have b0 : wE.cell? ⟨w.heap.size,0,none⟩=_:=HB.out.cell 0 _ rfl;have x1 : wE.cell? ⟨be,1,none⟩=_:=HX.out.cell 1 _ rfl;have x3 : wE.cell? ⟨be,3,none⟩=_:=HX.out.cell 3 _ rfl;have x4 : wE.cell? ⟨be,4,none⟩=_:=HX.out.cell 4 _ rfl;have k1 : wE.cell? ⟨bc,1,none⟩=_:=HK.out.cell 1 _ rfl;have k2 : wE.cell? ⟨bc,2,none⟩=_:=HK.out.cell 2 _ rfl;have k3 : wE.cell? ⟨bc,3,none⟩=_:=HK.out.cell 3 _ rfl;have k5 : wE.cell? ⟨bc,5,none⟩=_:=HK.out.cell 5 _ rfl;have k6 : wE.cell? ⟨bc,6,none⟩=_:=HK.out.cell 6 _ rfl;have Z1:=zh (Zone.of (X:=[]) (w0:=wE) b0 (by simp));have Z2:=zh (Zone.of (X:=[]) (w0:=wE) x1 (by simp));have Z3:=zh (Zone.of (X:=[]) (w0:=wE) k1 (by simp));have d2 : wE.cell? ⟨bb,off + k * 4 + 2,none⟩=some (.int .i64 g.len):=by rw [hwD];exact HD2.out
    have Z4:=zh (Zone.of (X:=[]) (w0:=wE) d2 (by simp));obtain⟨wF,hwF,hcF,hbF⟩:=set3 (str n) (.int .i64 g.len) (.int .i64 (-1)) HR.out;have r0 : wE.frozen? ⟨w.heap.size + 1,0,none⟩=_:=HR.out.frozen 0;have r1 : wE.frozen? ⟨w.heap.size + 1,1,none⟩=_:=HR.out.frozen 1;have r2 : wE.frozen? ⟨w.heap.size + 1,2,none⟩=_:=HR.out.frozen 2;have e0 : wE.cell? ⟨w.heap.size + 1,0,none⟩=_:=HR.out.cell 0 _ rfl;have e1 : wE.cell? ⟨w.heap.size + 1,1,none⟩=_:=HR.out.cell 1 _ rfl;have e2 : wE.cell? ⟨w.heap.size + 1,2,none⟩=_:=HR.out.cell 2 _ rfl;have f0:=hbF.cell 0 _ rfl;have f1:=hbF.cell 1 _ rfl;have f2:=hbF.cell 2 _ rfl;have HCF:=zh (show Chg [] w wF from HCW.out.trans hcF (fun x hx=>.inr (by simp at hx;omega)));clear hcF hbF;refine wp_region_T [] rfl (by kernel_rfl) rfl ?_;rw [← hwD];clear hwD;have hS:Chg [] wE wE:=Chg.refl _ _
    repeat ((with_reducible show wpX _ _ _ _ _ _ _ _);(first|refine wpX_nil ?_|refine wpX_skip rfl ?_|refine wpX_mv rfl rfl (by kernel_rfl) (fun _ _=>?_)|refine wpX_ldC rfl rfl rfl (by first|exact Z1.out|exact Z2.out|exact Z3.out|exact Z4.out) (by assumption) (fun _ _=>?_)|refine wpX_ef' rfl rfl rfl (fun _ _=>?_));go_wp2_with fail)
    refine stepX_ef rfl rfl (fun _ _=>?_)
    change Oper.wp _ (Oper.mk ..) ..
    go_wp2_with fail;refine bodyPost_ret (v:=.agg #[str n,.int .i64 g.len,.int .i64 (-1)]) (by simp [results,Tryz.results165,go_sem,f0,f1,f2]) rfl ?_;rw [HFD.out];exact⟨HCF.out,rfl⟩
   | none=>
    cases hp : c.procs.find? (fun x=>x.name == n) with
    | none=>
     have HFD:=zh (show c.find p [] n = .bad 7 p by rw [Env.find,if_neg (by simp),if_neg hnl,hg,hp]);clear hl hnl
     go_enter Tryz.func165,Tryz.ntmps165
     go_wp2_with fail;obtain⟨wD,hwD⟩ : ∃ x,x=w0.drew:=⟨_,rfl⟩
     clear b0 x1 x3 x4 k1 k2 k3 k5 k6;have hWD:Chg [] w0 wD:=by rw [hwD];exact(Chg.refl [] w0).drew
     have HCW:=zh (HCW.out.then hWD);have HC0:=zh (HC0.out.then hWD);have HB:=zh (HB.out.kept hWD (by simp));have HX:=zh (HX.out.kept hWD (by simp));have HK:=zh (HK.out.kept hWD (by simp));have HR:=zh (HR.out.kept hWD (by simp));clear hWD;have b0 : wD.cell? ⟨w.heap.size,0,none⟩=_:=HB.out.cell 0 _ rfl;have x1 : wD.cell? ⟨be,1,none⟩=_:=HX.out.cell 1 _ rfl;have x3 : wD.cell? ⟨be,3,none⟩=_:=HX.out.cell 3 _ rfl;have x4 : wD.cell? ⟨be,4,none⟩=_:=HX.out.cell 4 _ rfl;have k1 : wD.cell? ⟨bc,1,none⟩=_:=HK.out.cell 1 _ rfl;have k2 : wD.cell? ⟨bc,2,none⟩=_:=HK.out.cell 2 _ rfl;have k3 : wD.cell? ⟨bc,3,none⟩=_:=HK.out.cell 3 _ rfl;have k5 : wD.cell? ⟨bc,5,none⟩=_:=HK.out.cell 5 _ rfl;have k6 : wD.cell? ⟨bc,6,none⟩=_:=HK.out.cell 6 _ rfl;have Z1:=zh (Zone.of (X:=[]) (w0:=wD) b0 (by simp));have Z2:=zh (Zone.of (X:=[]) (w0:=wD) x1 (by simp));have Z3:=zh (Zone.of (X:=[]) (w0:=wD) k1 (by simp));refine wp_region_C [] rfl (by kernel_rfl) ?_;rw [← hwD];clear hwD;have hS:Chg [] wD wD:=Chg.refl _ _
     repeat ((with_reducible show wpX _ _ _ _ _ _ _ _);(first|refine wpX_nil ?_|refine wpX_skip rfl ?_|refine wpX_mv rfl rfl (by kernel_rfl) (fun _ _=>?_)|refine wpX_ldC rfl rfl rfl (by first|exact Z1.out|exact Z2.out|exact Z3.out) (by assumption) (fun _ _=>?_)|refine wpX_ef' rfl rfl rfl (fun _ _=>?_));go_wp2_with fail)
     refine(HCT.out _ HC0.out).mono ?_;rintro _ _ ⟨rfl,hw⟩;have hw:=hw.symm;subst hw;go_wp2_with fail;refine And.intro hS ?_
     repeat ((with_reducible show wpX _ _ _ _ _ _ _ _);(first|refine wpX_nil ?_|refine wpX_skip rfl ?_|refine wpX_mv rfl rfl (by kernel_rfl) (fun _ _=>?_)|refine wpX_ldC rfl rfl rfl (by first|exact Z1.out|exact Z2.out|exact Z3.out) (by assumption) (fun _ _=>?_)|refine wpX_ef' rfl rfl rfl (fun _ _=>?_));go_wp2_with fail)
     clear hS Z1 Z2 Z3;go_wp2_with fail;refine(HIG.out _ HC0.out).mono ?_;rintro _ w2 ⟨hat,hc2⟩;rw [At1,hg] at hat;clear b0 x1 x3 x4 k1 k2 k3 k5 k6;have hWD:Chg [] wD w2:=hc2;have HCW:=zh (HCW.out.then hWD);have HC0:=zh (HC0.out.then hWD);have HB:=zh (HB.out.kept hWD (by simp));have HX:=zh (HX.out.kept hWD (by simp));have HK:=zh (HK.out.kept hWD (by simp));have HR:=zh (HR.out.kept hWD (by simp));clear hWD;have b0 : w2.cell? ⟨w.heap.size,0,none⟩=_:=HB.out.cell 0 _ rfl;have x1 : w2.cell? ⟨be,1,none⟩=_:=HX.out.cell 1 _ rfl;have x3 : w2.cell? ⟨be,3,none⟩=_:=HX.out.cell 3 _ rfl;have x4 : w2.cell? ⟨be,4,none⟩=_:=HX.out.cell 4 _ rfl;have k1 : w2.cell? ⟨bc,1,none⟩=_:=HK.out.cell 1 _ rfl;have k2 : w2.cell? ⟨bc,2,none⟩=_:=HK.out.cell 2 _ rfl;have k3 : w2.cell? ⟨bc,3,none⟩=_:=HK.out.cell 3 _ rfl;have k5 : w2.cell? ⟨bc,5,none⟩=_:=HK.out.cell 5 _ rfl;have k6 : w2.cell? ⟨bc,6,none⟩=_:=HK.out.cell 6 _ rfl;clear hc2;subst hat;go_wp2_with fail;refine(HIP.out _ HC0.out).mono ?_;rintro _ w3 ⟨hat,hc2⟩;rw [At1,hp] at hat;clear b0 x1 x3 x4 k1 k2 k3 k5 k6;have hWD:Chg [] w2 w3:=hc2;have HCW:=zh (HCW.out.then hWD);have HC0:=zh (HC0.out.then hWD);have HB:=zh (HB.out.kept hWD (by simp));have HX:=zh (HX.out.kept hWD (by simp));have HK:=zh (HK.out.kept hWD (by simp));have HR:=zh (HR.out.kept hWD (by simp));clear hWD;have b0 : w3.cell? ⟨w.heap.size,0,none⟩=_:=HB.out.cell 0 _ rfl;have x1 : w3.cell? ⟨be,1,none⟩=_:=HX.out.cell 1 _ rfl;have x3 : w3.cell? ⟨be,3,none⟩=_:=HX.out.cell 3 _ rfl;have x4 : w3.cell? ⟨be,4,none⟩=_:=HX.out.cell 4 _ rfl;have k1 : w3.cell? ⟨bc,1,none⟩=_:=HK.out.cell 1 _ rfl;have k2 : w3.cell? ⟨bc,2,none⟩=_:=HK.out.cell 2 _ rfl;have k3 : w3.cell? ⟨bc,3,none⟩=_:=HK.out.cell 3 _ rfl;have k5 : w3.cell? ⟨bc,5,none⟩=_:=HK.out.cell 5 _ rfl;have k6 : w3.cell? ⟨bc,6,none⟩=_:=HK.out.cell 6 _ rfl;clear hc2;subst hat;go_wp2_with fail;refine(cfail_any 7 p _).mono ?_;rintro _ w9 ⟨hc,b9,rfl,hlt,hb9⟩;have HC9:=zh (HCW.out.then hc);have HB9:=zh hb9;have HLT:=zh hlt;have hsz:=HCW.out.size;clear hc hb9 hlt;go_wp2_with fail;rw [HFD.out];exact⟨rfl,HC9.out,b9,rfl,by have:=HLT.out;omega,HB9.out⟩
    | some x=>
     have HFD:=zh (show c.find p [] n = .is ⟨n,0,x.params.length⟩ by rw [Env.find,if_neg (by simp),if_neg hnl,hg,hp]);clear hl hnl
     go_enter Tryz.func165,Tryz.ntmps165
     go_wp2_with fail;obtain⟨wD,hwD⟩ : ∃ x,x=w0.drew:=⟨_,rfl⟩
     clear b0 x1 x3 x4 k1 k2 k3 k5 k6;have hWD:Chg [] w0 wD:=by rw [hwD];exact(Chg.refl [] w0).drew
     have HCW:=zh (HCW.out.then hWD);have HC0:=zh (HC0.out.then hWD);have HB:=zh (HB.out.kept hWD (by simp));have HX:=zh (HX.out.kept hWD (by simp));have HK:=zh (HK.out.kept hWD (by simp));have HR:=zh (HR.out.kept hWD (by simp));clear hWD;have b0 : wD.cell? ⟨w.heap.size,0,none⟩=_:=HB.out.cell 0 _ rfl;have x1 : wD.cell? ⟨be,1,none⟩=_:=HX.out.cell 1 _ rfl;have x3 : wD.cell? ⟨be,3,none⟩=_:=HX.out.cell 3 _ rfl;have x4 : wD.cell? ⟨be,4,none⟩=_:=HX.out.cell 4 _ rfl;have k1 : wD.cell? ⟨bc,1,none⟩=_:=HK.out.cell 1 _ rfl;have k2 : wD.cell? ⟨bc,2,none⟩=_:=HK.out.cell 2 _ rfl;have k3 : wD.cell? ⟨bc,3,none⟩=_:=HK.out.cell 3 _ rfl;have k5 : wD.cell? ⟨bc,5,none⟩=_:=HK.out.cell 5 _ rfl;have k6 : wD.cell? ⟨bc,6,none⟩=_:=HK.out.cell 6 _ rfl;have Z1:=zh (Zone.of (X:=[]) (w0:=wD) b0 (by simp));have Z2:=zh (Zone.of (X:=[]) (w0:=wD) x1 (by simp));have Z3:=zh (Zone.of (X:=[]) (w0:=wD) k1 (by simp));refine wp_region_C [] rfl (by kernel_rfl) ?_;rw [← hwD];clear hwD;have hS:Chg [] wD wD:=Chg.refl _ _
     repeat ((with_reducible show wpX _ _ _ _ _ _ _ _);(first|refine wpX_nil ?_|refine wpX_skip rfl ?_|refine wpX_mv rfl rfl (by kernel_rfl) (fun _ _=>?_)|refine wpX_ldC rfl rfl rfl (by first|exact Z1.out|exact Z2.out|exact Z3.out) (by assumption) (fun _ _=>?_)|refine wpX_ef' rfl rfl rfl (fun _ _=>?_));go_wp2_with fail)
     refine(HCT.out _ HC0.out).mono ?_;rintro _ _ ⟨rfl,hw⟩;have hw:=hw.symm;subst hw;go_wp2_with fail;refine And.intro hS ?_
     repeat ((with_reducible show wpX _ _ _ _ _ _ _ _);(first|refine wpX_nil ?_|refine wpX_skip rfl ?_|refine wpX_mv rfl rfl (by kernel_rfl) (fun _ _=>?_)|refine wpX_ldC rfl rfl rfl (by first|exact Z1.out|exact Z2.out|exact Z3.out) (by assumption) (fun _ _=>?_)|refine wpX_ef' rfl rfl rfl (fun _ _=>?_));go_wp2_with fail)
     clear hS Z1 Z2 Z3;go_wp2_with fail;refine(HIG.out _ HC0.out).mono ?_;rintro _ w2 ⟨hat,hc2⟩;rw [At1,hg] at hat;clear b0 x1 x3 x4 k1 k2 k3 k5 k6;have hWD:Chg [] wD w2:=hc2;have HCW:=zh (HCW.out.then hWD);have HC0:=zh (HC0.out.then hWD);have HB:=zh (HB.out.kept hWD (by simp));have HX:=zh (HX.out.kept hWD (by simp));have HK:=zh (HK.out.kept hWD (by simp));have HR:=zh (HR.out.kept hWD (by simp));clear hWD;have b0 : w2.cell? ⟨w.heap.size,0,none⟩=_:=HB.out.cell 0 _ rfl;have x1 : w2.cell? ⟨be,1,none⟩=_:=HX.out.cell 1 _ rfl;have x3 : w2.cell? ⟨be,3,none⟩=_:=HX.out.cell 3 _ rfl;have x4 : w2.cell? ⟨be,4,none⟩=_:=HX.out.cell 4 _ rfl;have k1 : w2.cell? ⟨bc,1,none⟩=_:=HK.out.cell 1 _ rfl;have k2 : w2.cell? ⟨bc,2,none⟩=_:=HK.out.cell 2 _ rfl;have k3 : w2.cell? ⟨bc,3,none⟩=_:=HK.out.cell 3 _ rfl;have k5 : w2.cell? ⟨bc,5,none⟩=_:=HK.out.cell 5 _ rfl;have k6 : w2.cell? ⟨bc,6,none⟩=_:=HK.out.cell 6 _ rfl;clear hc2;subst hat;go_wp2_with fail;refine(HIP.out _ HC0.out).mono ?_;rintro _ w3 ⟨hat,hc2⟩;rw [At1,hp] at hat;clear b0 x1 x3 x4 k1 k2 k3 k5 k6;have hWD:Chg [] w2 w3:=hc2;have HCW:=zh (HCW.out.then hWD);have HC0:=zh (HC0.out.then hWD);have HB:=zh (HB.out.kept hWD (by simp));have HX:=zh (HX.out.kept hWD (by simp));have HK:=zh (HK.out.kept hWD (by simp));have HR:=zh (HR.out.kept hWD (by simp));clear hWD;have b0 : w3.cell? ⟨w.heap.size,0,none⟩=_:=HB.out.cell 0 _ rfl;have x1 : w3.cell? ⟨be,1,none⟩=_:=HX.out.cell 1 _ rfl;have x3 : w3.cell? ⟨be,3,none⟩=_:=HX.out.cell 3 _ rfl;have x4 : w3.cell? ⟨be,4,none⟩=_:=HX.out.cell 4 _ rfl;have k1 : w3.cell? ⟨bc,1,none⟩=_:=HK.out.cell 1 _ rfl;have k2 : w3.cell? ⟨bc,2,none⟩=_:=HK.out.cell 2 _ rfl;have k3 : w3.cell? ⟨bc,3,none⟩=_:=HK.out.cell 3 _ rfl;have k5 : w3.cell? ⟨bc,5,none⟩=_:=HK.out.cell 5 _ rfl;have k6 : w3.cell? ⟨bc,6,none⟩=_:=HK.out.cell 6 _ rfl;clear hc2;obtain⟨k,hk,rfl⟩:=hat;have hlt : k < c.procs.length:=(List.getElem?_eq_some_iff.1 hk).1;obtain⟨bb,off,cp,pos,a1,q1,a2,n2,q2,a3,n3,q3,hvv,_,_,_,_,d2,_,_⟩:=proc_cells (HPV.out.kept HC0.out (by simp)) hk;subst hvv;have HD2:=zh d2;clear hk d2;go_wp2_with fail;have HD2:=zh (show w3.drew.cell? _=_ from HD2.out);obtain⟨wE,hwD⟩ : ∃ x,x=w3.drew:=⟨_,rfl⟩
     clear b0 x1 x3 x4 k1 k2 k3 k5 k6;have hWD:Chg [] w3 wE:=by rw [hwD];exact(Chg.refl [] w3).drew
     have HCW:=zh (HCW.out.then hWD);have HC0:=zh (HC0.out.then hWD);have HB:=zh (HB.out.kept hWD (by simp));have HX:=zh (HX.out.kept hWD (by simp));have HK:=zh (HK.out.kept hWD (by simp));have HR:=zh (HR.out.kept hWD (by simp));clear hWD;have b0 : wE.cell? ⟨w.heap.size,0,none⟩=_:=HB.out.cell 0 _ rfl;have x1 : wE.cell? ⟨be,1,none⟩=_:=HX.out.cell 1 _ rfl;have x3 : wE.cell? ⟨be,3,none⟩=_:=HX.out.cell 3 _ rfl;have x4 : wE.cell? ⟨be,4,none⟩=_:=HX.out.cell 4 _ rfl;have k1 : wE.cell? ⟨bc,1,none⟩=_:=HK.out.cell 1 _ rfl;have k2 : wE.cell? ⟨bc,2,none⟩=_:=HK.out.cell 2 _ rfl;have k3 : wE.cell? ⟨bc,3,none⟩=_:=HK.out.cell 3 _ rfl;have k5 : wE.cell? ⟨bc,5,none⟩=_:=HK.out.cell 5 _ rfl;have k6 : wE.cell? ⟨bc,6,none⟩=_:=HK.out.cell 6 _ rfl;have Z1:=zh (Zone.of (X:=[]) (w0:=wE) b0 (by simp));have Z2:=zh (Zone.of (X:=[]) (w0:=wE) x1 (by simp));have Z3:=zh (Zone.of (X:=[]) (w0:=wE) k1 (by simp));have d2 : wE.cell? ⟨bb,off + k * 6 + 3,none⟩=some (.slice a1 x.params.length q1):=by rw [hwD];exact HD2.out
     have Z4:=zh (Zone.of (X:=[]) (w0:=wE) d2 (by simp));obtain⟨wF,hwF,hcF,hbF⟩:=set3 (str n) (.int .i64 0) (.int .i64 x.params.length) HR.out;have r0 : wE.frozen? ⟨w.heap.size + 1,0,none⟩=_:=HR.out.frozen 0;have r1 : wE.frozen? ⟨w.heap.size + 1,1,none⟩=_:=HR.out.frozen 1;have r2 : wE.frozen? ⟨w.heap.size + 1,2,none⟩=_:=HR.out.frozen 2;have e0 : wE.cell? ⟨w.heap.size + 1,0,none⟩=_:=HR.out.cell 0 _ rfl;have e1 : wE.cell? ⟨w.heap.size + 1,1,none⟩=_:=HR.out.cell 1 _ rfl;have e2 : wE.cell? ⟨w.heap.size + 1,2,none⟩=_:=HR.out.cell 2 _ rfl;have f0:=hbF.cell 0 _ rfl;have f1:=hbF.cell 1 _ rfl;have f2:=hbF.cell 2 _ rfl;have HCF:=zh (show Chg [] w wF from HCW.out.trans hcF (fun x hx=>.inr (by simp at hx;omega)));clear hcF hbF;refine wp_region_T [] rfl (by kernel_rfl) rfl ?_;rw [← hwD];clear hwD;have hS:Chg [] wE wE:=Chg.refl _ _
     repeat ((with_reducible show wpX _ _ _ _ _ _ _ _);(first|refine wpX_nil ?_|refine wpX_skip rfl ?_|refine wpX_mv rfl rfl (by kernel_rfl) (fun _ _=>?_)|refine wpX_ldC rfl rfl rfl (by first|exact Z1.out|exact Z2.out|exact Z3.out|exact Z4.out) (by assumption) (fun _ _=>?_)|refine wpX_ef' rfl rfl rfl (fun _ _=>?_));go_wp2_with fail)
     refine stepX_ef rfl rfl (fun _ _=>?_)
     change Oper.wp _ (Oper.mk ..) ..
     go_wp2_with fail;refine bodyPost_ret (v:=.agg #[str n,.int .i64 0,.int .i64 x.params.length]) (by simp [results,Tryz.results165,go_sem,f0,f1,f2]) rfl ?_;rw [HFD.out];exact⟨HCF.out,rfl⟩
 | cons ch mr=>
  have hmn : ch :: mr≠[]:=by simp
  obtain⟨m,hm⟩ : ∃ m,m=ch :: mr:=⟨_,rfl⟩
  rw [← hm] at HCM hmn HX x1 x3 x4 ⊢;have hme : m.isEmpty=false:=by rw [hm];rfl
  clear hm HCT HIG HIP;cases hi : decide (m∈c.imports) with
  | false=>
   rw [hi] at HCM;have HFD:=zh (show c.find p m n = .bad 5 p by rw [Env.find,if_pos hmn,if_pos (by simpa using hi)]);clear hi
   go_enter Tryz.func165,Tryz.ntmps165
   go_wp2_with fail;obtain⟨wD,hwD⟩ : ∃ x,x=w0.drew:=⟨_,rfl⟩
   clear b0 x1 x3 x4 k1 k2 k3 k5 k6;have hWD:Chg [] w0 wD:=by rw [hwD];exact(Chg.refl [] w0).drew
   have HCW:=zh (HCW.out.then hWD);have HC0:=zh (HC0.out.then hWD);have HB:=zh (HB.out.kept hWD (by simp));have HX:=zh (HX.out.kept hWD (by simp));have HK:=zh (HK.out.kept hWD (by simp));have HR:=zh (HR.out.kept hWD (by simp));clear hWD;have b0 : wD.cell? ⟨w.heap.size,0,none⟩=_:=HB.out.cell 0 _ rfl;have x1 : wD.cell? ⟨be,1,none⟩=_:=HX.out.cell 1 _ rfl;have x3 : wD.cell? ⟨be,3,none⟩=_:=HX.out.cell 3 _ rfl;have x4 : wD.cell? ⟨be,4,none⟩=_:=HX.out.cell 4 _ rfl;have k1 : wD.cell? ⟨bc,1,none⟩=_:=HK.out.cell 1 _ rfl;have k2 : wD.cell? ⟨bc,2,none⟩=_:=HK.out.cell 2 _ rfl;have k3 : wD.cell? ⟨bc,3,none⟩=_:=HK.out.cell 3 _ rfl;have k5 : wD.cell? ⟨bc,5,none⟩=_:=HK.out.cell 5 _ rfl;have k6 : wD.cell? ⟨bc,6,none⟩=_:=HK.out.cell 6 _ rfl;have Z1:=zh (Zone.of (X:=[]) (w0:=wD) b0 (by simp));have Z2:=zh (Zone.of (X:=[]) (w0:=wD) x1 (by simp));have Z3:=zh (Zone.of (X:=[]) (w0:=wD) k1 (by simp));refine wp_region_C [] rfl (by kernel_rfl) ?_;rw [← hwD];clear hwD;have hS:Chg [] wD wD:=Chg.refl _ _
   repeat ((with_reducible show wpX _ _ _ _ _ _ _ _);(first|refine wpX_nil ?_|refine wpX_skip rfl ?_|refine wpX_mv rfl rfl (by kernel_rfl) (fun _ _=>?_)|refine wpX_ldC rfl rfl rfl (by first|exact Z1.out|exact Z2.out|exact Z3.out) (by assumption) (fun _ _=>?_)|refine wpX_ef' rfl rfl rfl (fun _ _=>?_));go_wp2_with fail)
   refine(HCM.out _ HC0.out).mono ?_;rintro _ _ ⟨rfl,hw⟩;have hw:=hw.symm;subst hw;go_wp2_with fail;refine And.intro hS ?_
   repeat ((with_reducible show wpX _ _ _ _ _ _ _ _);(first|refine wpX_nil ?_|refine wpX_skip rfl ?_|refine wpX_mv rfl rfl (by kernel_rfl) (fun _ _=>?_)|refine wpX_ldC rfl rfl rfl (by first|exact Z1.out|exact Z2.out|exact Z3.out) (by assumption) (fun _ _=>?_)|refine wpX_ef' rfl rfl rfl (fun _ _=>?_));go_wp2_with fail)
   clear hS Z1 Z2 Z3;go_wp2_with fail;refine(cfail_any 5 p _).mono ?_;rintro _ w9 ⟨hc,b9,rfl,hlt,hb9⟩;have HC9:=zh (HCW.out.then hc);have HB9:=zh hb9;have HLT:=zh hlt;have hsz:=HCW.out.size;clear hc hb9 hlt;go_wp2_with fail;rw [HFD.out];exact⟨rfl,HC9.out,b9,rfl,by have:=HLT.out;omega,HB9.out⟩
  | true=>
   rw [hi] at HCM;have him : m∈c.imports:=by simpa using hi
   obtain⟨u,hlk,_,hfew,hsy⟩:=look_seen HSV.out m;obtain⟨l,hl⟩ : ∃ l,l=(c.seen m).getD []:=⟨_,rfl⟩
   rw [← hl] at hfew hsy;have HLK:=zh hlk;have HSY:=zh hsy;have HFC:=zh (show ∀ w',Chg [] w0 w'→Calls Tryz.prog 96 #[u,str n] w' (fun e w''=>e = .returned (.int .i64 (findI l n))∧Chg [] w' w'') from fun w' hc=>find_any l hfew n F u w' (HSY.out.kept hc (by simp)));clear hlk hsy hi;cases hf : findS l n with
   | none=>
    rw [show findI l n = -1 by rw [findI,hf]] at HFC;have HFD:=zh (show c.find p m n = .bad 7 p by rw [Env.find,if_pos hmn,if_neg (by simpa using him),← hl,hf]);clear hl him hf
    go_enter Tryz.func165,Tryz.ntmps165
    go_wp2_with fail;obtain⟨wD,hwD⟩ : ∃ x,x=w0.drew:=⟨_,rfl⟩
    clear b0 x1 x3 x4 k1 k2 k3 k5 k6;have hWD:Chg [] w0 wD:=by rw [hwD];exact(Chg.refl [] w0).drew
    have HCW:=zh (HCW.out.then hWD);have HC0:=zh (HC0.out.then hWD);have HB:=zh (HB.out.kept hWD (by simp));have HX:=zh (HX.out.kept hWD (by simp));have HK:=zh (HK.out.kept hWD (by simp));have HR:=zh (HR.out.kept hWD (by simp));clear hWD;have b0 : wD.cell? ⟨w.heap.size,0,none⟩=_:=HB.out.cell 0 _ rfl;have x1 : wD.cell? ⟨be,1,none⟩=_:=HX.out.cell 1 _ rfl;have x3 : wD.cell? ⟨be,3,none⟩=_:=HX.out.cell 3 _ rfl;have x4 : wD.cell? ⟨be,4,none⟩=_:=HX.out.cell 4 _ rfl;have k1 : wD.cell? ⟨bc,1,none⟩=_:=HK.out.cell 1 _ rfl;have k2 : wD.cell? ⟨bc,2,none⟩=_:=HK.out.cell 2 _ rfl;have k3 : wD.cell? ⟨bc,3,none⟩=_:=HK.out.cell 3 _ rfl;have k5 : wD.cell? ⟨bc,5,none⟩=_:=HK.out.cell 5 _ rfl;have k6 : wD.cell? ⟨bc,6,none⟩=_:=HK.out.cell 6 _ rfl;have Z1:=zh (Zone.of (X:=[]) (w0:=wD) b0 (by simp));have Z2:=zh (Zone.of (X:=[]) (w0:=wD) x1 (by simp));have Z3:=zh (Zone.of (X:=[]) (w0:=wD) k1 (by simp));refine wp_region_C [] rfl (by kernel_rfl) ?_;rw [← hwD];clear hwD;have hS:Chg [] wD wD:=Chg.refl _ _
    repeat ((with_reducible show wpX _ _ _ _ _ _ _ _);(first|refine wpX_nil ?_|refine wpX_skip rfl ?_|refine wpX_mv rfl rfl (by kernel_rfl) (fun _ _=>?_)|refine wpX_ldC rfl rfl rfl (by first|exact Z1.out|exact Z2.out|exact Z3.out) (by assumption) (fun _ _=>?_)|refine wpX_ef' rfl rfl rfl (fun _ _=>?_));go_wp2_with fail)
    refine(HCM.out _ HC0.out).mono ?_;rintro _ _ ⟨rfl,hw⟩;have hw:=hw.symm;subst hw;go_wp2_with fail;refine And.intro hS ?_
    repeat ((with_reducible show wpX _ _ _ _ _ _ _ _);(first|refine wpX_nil ?_|refine wpX_skip rfl ?_|refine wpX_mv rfl rfl (by kernel_rfl) (fun _ _=>?_)|refine wpX_ldC rfl rfl rfl (by first|exact Z1.out|exact Z2.out|exact Z3.out) (by assumption) (fun _ _=>?_)|refine wpX_ef' rfl rfl rfl (fun _ _=>?_));go_wp2_with fail)
    clear hS Z1 Z2 Z3;go_wp2_with fail;obtain⟨wE,hwD⟩ : ∃ x,x=wD.drew:=⟨_,rfl⟩
    clear b0 x1 x3 x4 k1 k2 k3 k5 k6;have hWD:Chg [] wD wE:=by rw [hwD];exact(Chg.refl [] wD).drew
    have HCW:=zh (HCW.out.then hWD);have HC0:=zh (HC0.out.then hWD);have HB:=zh (HB.out.kept hWD (by simp));have HX:=zh (HX.out.kept hWD (by simp));have HK:=zh (HK.out.kept hWD (by simp));have HR:=zh (HR.out.kept hWD (by simp));clear hWD;have b0 : wE.cell? ⟨w.heap.size,0,none⟩=_:=HB.out.cell 0 _ rfl;have x1 : wE.cell? ⟨be,1,none⟩=_:=HX.out.cell 1 _ rfl;have x3 : wE.cell? ⟨be,3,none⟩=_:=HX.out.cell 3 _ rfl;have x4 : wE.cell? ⟨be,4,none⟩=_:=HX.out.cell 4 _ rfl;have k1 : wE.cell? ⟨bc,1,none⟩=_:=HK.out.cell 1 _ rfl;have k2 : wE.cell? ⟨bc,2,none⟩=_:=HK.out.cell 2 _ rfl;have k3 : wE.cell? ⟨bc,3,none⟩=_:=HK.out.cell 3 _ rfl;have k5 : wE.cell? ⟨bc,5,none⟩=_:=HK.out.cell 5 _ rfl;have k6 : wE.cell? ⟨bc,6,none⟩=_:=HK.out.cell 6 _ rfl;have Z1:=zh (Zone.of (X:=[]) (w0:=wE) b0 (by simp));have Z2:=zh (Zone.of (X:=[]) (w0:=wE) x1 (by simp));have Z3:=zh (Zone.of (X:=[]) (w0:=wE) k1 (by simp));refine wp_region_C [] rfl (by kernel_rfl) ?_;rw [← hwD];clear hwD;have hS:Chg [] wE wE:=Chg.refl _ _;have hlu : (Instr.lookup 97 vm (str m) false).run Tryz.prog wE = .ok u wE:=HLK.out wE HC0.out
    repeat ((with_reducible show wpX _ _ _ _ _ _ _ _);(first|refine wpX_nil ?_|refine wpX_skip rfl ?_|refine wpX_mv rfl rfl (by kernel_rfl) (fun _ _=>?_)|refine wpX_ldC rfl rfl rfl (by first|exact Z1.out|exact Z2.out|exact Z3.out) (by assumption) (fun _ _=>?_)|refine wpX_ef' rfl rfl rfl (fun _ _=>?_));go_wp2_with fail)
    refine And.intro hS ?_
    repeat ((with_reducible show wpX _ _ _ _ _ _ _ _);(first|refine wpX_nil ?_|refine wpX_skip rfl ?_|refine wpX_mv rfl rfl (by kernel_rfl) (fun _ _=>?_)|refine wpX_ldC rfl rfl rfl (by first|exact Z1.out|exact Z2.out|exact Z3.out) (by assumption) (fun _ _=>?_)|refine wpX_ef' rfl rfl rfl (fun _ _=>?_));go_wp2_with fail)
    refine(HFC.out _ HC0.out).mono ?_;rintro _ w2 ⟨rfl,hc2⟩;have hS:Chg [] wE w2:=hc2;clear b0 x1 x3 x4 k1 k2 k3 k5 k6;have hWD:Chg [] wE w2:=hc2;have HCW:=zh (HCW.out.then hWD);have HC0:=zh (HC0.out.then hWD);have HB:=zh (HB.out.kept hWD (by simp));have HX:=zh (HX.out.kept hWD (by simp));have HK:=zh (HK.out.kept hWD (by simp));have HR:=zh (HR.out.kept hWD (by simp));clear hWD;have b0 : w2.cell? ⟨w.heap.size,0,none⟩=_:=HB.out.cell 0 _ rfl;have x1 : w2.cell? ⟨be,1,none⟩=_:=HX.out.cell 1 _ rfl;have x3 : w2.cell? ⟨be,3,none⟩=_:=HX.out.cell 3 _ rfl;have x4 : w2.cell? ⟨be,4,none⟩=_:=HX.out.cell 4 _ rfl;have k1 : w2.cell? ⟨bc,1,none⟩=_:=HK.out.cell 1 _ rfl;have k2 : w2.cell? ⟨bc,2,none⟩=_:=HK.out.cell 2 _ rfl;have k3 : w2.cell? ⟨bc,3,none⟩=_:=HK.out.cell 3 _ rfl;have k5 : w2.cell? ⟨bc,5,none⟩=_:=HK.out.cell 5 _ rfl;have k6 : w2.cell? ⟨bc,6,none⟩=_:=HK.out.cell 6 _ rfl;clear hc2;go_wp2_with fail;refine And.intro hS ?_
    repeat ((with_reducible show wpX _ _ _ _ _ _ _ _);(first|refine wpX_nil ?_|refine wpX_skip rfl ?_|refine wpX_mv rfl rfl (by kernel_rfl) (fun _ _=>?_)|refine wpX_ldC rfl rfl rfl (by first|exact Z1.out|exact Z2.out|exact Z3.out) (by assumption) (fun _ _=>?_)|refine wpX_ef' rfl rfl rfl (fun _ _=>?_));go_wp2_with fail)
    clear hS Z1 Z2 Z3;go_wp2_with fail;refine(cfail_any 7 p _).mono ?_;rintro _ w9 ⟨hc,b9,rfl,hlt,hb9⟩;have HC9:=zh (HCW.out.then hc);have HB9:=zh hb9;have HLT:=zh hlt;have hsz:=HCW.out.size;clear hc hb9 hlt;go_wp2_with fail;rw [HFD.out];exact⟨rfl,HC9.out,b9,rfl,by have:=HLT.out;omega,HB9.out⟩
   | some k=>
    rw [show findI l n=k by rw [findI,hf]] at HFC;have hkl:=findS_lt hf;obtain⟨s,hs⟩ : ∃ s,l[k]?=some s:=⟨l[k],List.getElem?_eq_getElem hkl⟩
    have HFD:=zh (show c.find p m n = .is s by
     rw [Env.find,if_pos hmn,if_neg (by simpa using him),← hl,hf];simp only [List.getD_eq_getElem?_getD,hs,Option.getD_some])
    obtain⟨ua,uc,hu,huc,hur,_⟩:=HSY.out;obtain⟨bb,off,rfl,d0,d1,d2⟩:=sy_cells3 hur hs;subst hu;have HD0:=zh d0;have HD1:=zh d1;have HD2:=zh d2;clear hl him hf hs hur d0 d1 d2
    go_enter Tryz.func165,Tryz.ntmps165
    go_wp2_with fail;obtain⟨wD,hwD⟩ : ∃ x,x=w0.drew:=⟨_,rfl⟩
    clear b0 x1 x3 x4 k1 k2 k3 k5 k6;have hWD:Chg [] w0 wD:=by rw [hwD];exact(Chg.refl [] w0).drew
    have HCW:=zh (HCW.out.then hWD);have HC0:=zh (HC0.out.then hWD);have HB:=zh (HB.out.kept hWD (by simp));have HX:=zh (HX.out.kept hWD (by simp));have HK:=zh (HK.out.kept hWD (by simp));have HR:=zh (HR.out.kept hWD (by simp));clear hWD;have b0 : wD.cell? ⟨w.heap.size,0,none⟩=_:=HB.out.cell 0 _ rfl;have x1 : wD.cell? ⟨be,1,none⟩=_:=HX.out.cell 1 _ rfl;have x3 : wD.cell? ⟨be,3,none⟩=_:=HX.out.cell 3 _ rfl;have x4 : wD.cell? ⟨be,4,none⟩=_:=HX.out.cell 4 _ rfl;have k1 : wD.cell? ⟨bc,1,none⟩=_:=HK.out.cell 1 _ rfl;have k2 : wD.cell? ⟨bc,2,none⟩=_:=HK.out.cell 2 _ rfl;have k3 : wD.cell? ⟨bc,3,none⟩=_:=HK.out.cell 3 _ rfl;have k5 : wD.cell? ⟨bc,5,none⟩=_:=HK.out.cell 5 _ rfl;have k6 : wD.cell? ⟨bc,6,none⟩=_:=HK.out.cell 6 _ rfl;have Z1:=zh (Zone.of (X:=[]) (w0:=wD) b0 (by simp));have Z2:=zh (Zone.of (X:=[]) (w0:=wD) x1 (by simp));have Z3:=zh (Zone.of (X:=[]) (w0:=wD) k1 (by simp));refine wp_region_C [] rfl (by kernel_rfl) ?_;rw [← hwD];clear hwD;have hS:Chg [] wD wD:=Chg.refl _ _
    repeat ((with_reducible show wpX _ _ _ _ _ _ _ _);(first|refine wpX_nil ?_|refine wpX_skip rfl ?_|refine wpX_mv rfl rfl (by kernel_rfl) (fun _ _=>?_)|refine wpX_ldC rfl rfl rfl (by first|exact Z1.out|exact Z2.out|exact Z3.out) (by assumption) (fun _ _=>?_)|refine wpX_ef' rfl rfl rfl (fun _ _=>?_));go_wp2_with fail)
    refine(HCM.out _ HC0.out).mono ?_;rintro _ _ ⟨rfl,hw⟩;have hw:=hw.symm;subst hw;go_wp2_with fail;refine And.intro hS ?_
    repeat ((with_reducible show wpX _ _ _ _ _ _ _ _);(first|refine wpX_nil ?_|refine wpX_skip rfl ?_|refine wpX_mv rfl rfl (by kernel_rfl) (fun _ _=>?_)|refine wpX_ldC rfl rfl rfl (by first|exact Z1.out|exact Z2.out|exact Z3.out) (by assumption) (fun _ _=>?_)|refine wpX_ef' rfl rfl rfl (fun _ _=>?_));go_wp2_with fail)
    clear hS Z1 Z2 Z3;go_wp2_with fail;obtain⟨wE,hwD⟩ : ∃ x,x=wD.drew:=⟨_,rfl⟩
    clear b0 x1 x3 x4 k1 k2 k3 k5 k6;have hWD:Chg [] wD wE:=by rw [hwD];exact(Chg.refl [] wD).drew
    have HCW:=zh (HCW.out.then hWD);have HC0:=zh (HC0.out.then hWD);have HB:=zh (HB.out.kept hWD (by simp));have HX:=zh (HX.out.kept hWD (by simp));have HK:=zh (HK.out.kept hWD (by simp));have HR:=zh (HR.out.kept hWD (by simp));clear hWD;have b0 : wE.cell? ⟨w.heap.size,0,none⟩=_:=HB.out.cell 0 _ rfl;have x1 : wE.cell? ⟨be,1,none⟩=_:=HX.out.cell 1 _ rfl;have x3 : wE.cell? ⟨be,3,none⟩=_:=HX.out.cell 3 _ rfl;have x4 : wE.cell? ⟨be,4,none⟩=_:=HX.out.cell 4 _ rfl;have k1 : wE.cell? ⟨bc,1,none⟩=_:=HK.out.cell 1 _ rfl;have k2 : wE.cell? ⟨bc,2,none⟩=_:=HK.out.cell 2 _ rfl;have k3 : wE.cell? ⟨bc,3,none⟩=_:=HK.out.cell 3 _ rfl;have k5 : wE.cell? ⟨bc,5,none⟩=_:=HK.out.cell 5 _ rfl;have k6 : wE.cell? ⟨bc,6,none⟩=_:=HK.out.cell 6 _ rfl;have Z1:=zh (Zone.of (X:=[]) (w0:=wE) b0 (by simp));have Z2:=zh (Zone.of (X:=[]) (w0:=wE) x1 (by simp));have Z3:=zh (Zone.of (X:=[]) (w0:=wE) k1 (by simp));refine wp_region_C [] rfl (by kernel_rfl) ?_;rw [← hwD];clear hwD;have hS:Chg [] wE wE:=Chg.refl _ _;have hlu : (Instr.lookup 97 vm (str m) false).run Tryz.prog wE = .ok (.slice (some ⟨bb,off,none⟩) l.length uc) wE:=HLK.out wE HC0.out
    repeat ((with_reducible show wpX _ _ _ _ _ _ _ _);(first|refine wpX_nil ?_|refine wpX_skip rfl ?_|refine wpX_mv rfl rfl (by kernel_rfl) (fun _ _=>?_)|refine wpX_ldC rfl rfl rfl (by first|exact Z1.out|exact Z2.out|exact Z3.out) (by assumption) (fun _ _=>?_)|refine wpX_ef' rfl rfl rfl (fun _ _=>?_));go_wp2_with fail)
    refine And.intro hS ?_
    repeat ((with_reducible show wpX _ _ _ _ _ _ _ _);(first|refine wpX_nil ?_|refine wpX_skip rfl ?_|refine wpX_mv rfl rfl (by kernel_rfl) (fun _ _=>?_)|refine wpX_ldC rfl rfl rfl (by first|exact Z1.out|exact Z2.out|exact Z3.out) (by assumption) (fun _ _=>?_)|refine wpX_ef' rfl rfl rfl (fun _ _=>?_));go_wp2_with fail)
    refine(HFC.out _ HC0.out).mono ?_;rintro _ w2 ⟨rfl,hc2⟩;have hS:Chg [] wE w2:=hc2;clear b0 x1 x3 x4 k1 k2 k3 k5 k6;have hWD:Chg [] wE w2:=hc2;have HCW:=zh (HCW.out.then hWD);have HC0:=zh (HC0.out.then hWD);have HB:=zh (HB.out.kept hWD (by simp));have HX:=zh (HX.out.kept hWD (by simp));have HK:=zh (HK.out.kept hWD (by simp));have HR:=zh (HR.out.kept hWD (by simp));clear hWD;have b0 : w2.cell? ⟨w.heap.size,0,none⟩=_:=HB.out.cell 0 _ rfl;have x1 : w2.cell? ⟨be,1,none⟩=_:=HX.out.cell 1 _ rfl;have x3 : w2.cell? ⟨be,3,none⟩=_:=HX.out.cell 3 _ rfl;have x4 : w2.cell? ⟨be,4,none⟩=_:=HX.out.cell 4 _ rfl;have k1 : w2.cell? ⟨bc,1,none⟩=_:=HK.out.cell 1 _ rfl;have k2 : w2.cell? ⟨bc,2,none⟩=_:=HK.out.cell 2 _ rfl;have k3 : w2.cell? ⟨bc,3,none⟩=_:=HK.out.cell 3 _ rfl;have k5 : w2.cell? ⟨bc,5,none⟩=_:=HK.out.cell 5 _ rfl;have k6 : w2.cell? ⟨bc,6,none⟩=_:=HK.out.cell 6 _ rfl;clear hc2;go_wp2_with fail;refine And.intro hS ?_
    repeat ((with_reducible show wpX _ _ _ _ _ _ _ _);(first|refine wpX_nil ?_|refine wpX_skip rfl ?_|refine wpX_mv rfl rfl (by kernel_rfl) (fun _ _=>?_)|refine wpX_ldC rfl rfl rfl (by first|exact Z1.out|exact Z2.out|exact Z3.out) (by assumption) (fun _ _=>?_)|refine wpX_ef' rfl rfl rfl (fun _ _=>?_));go_wp2_with fail)
    clear hS Z1 Z2 Z3;go_wp2_with fail;obtain⟨wG,hwD⟩ : ∃ x,x=w2.drew:=⟨_,rfl⟩
    clear b0 x1 x3 x4 k1 k2 k3 k5 k6;have hWD:Chg [] w2 wG:=by rw [hwD];exact(Chg.refl [] w2).drew
    have HCW:=zh (HCW.out.then hWD);have HC0:=zh (HC0.out.then hWD);have HB:=zh (HB.out.kept hWD (by simp));have HX:=zh (HX.out.kept hWD (by simp));have HK:=zh (HK.out.kept hWD (by simp));have HR:=zh (HR.out.kept hWD (by simp));clear hWD;have b0 : wG.cell? ⟨w.heap.size,0,none⟩=_:=HB.out.cell 0 _ rfl;have x1 : wG.cell? ⟨be,1,none⟩=_:=HX.out.cell 1 _ rfl;have x3 : wG.cell? ⟨be,3,none⟩=_:=HX.out.cell 3 _ rfl;have x4 : wG.cell? ⟨be,4,none⟩=_:=HX.out.cell 4 _ rfl;have k1 : wG.cell? ⟨bc,1,none⟩=_:=HK.out.cell 1 _ rfl;have k2 : wG.cell? ⟨bc,2,none⟩=_:=HK.out.cell 2 _ rfl;have k3 : wG.cell? ⟨bc,3,none⟩=_:=HK.out.cell 3 _ rfl;have k5 : wG.cell? ⟨bc,5,none⟩=_:=HK.out.cell 5 _ rfl;have k6 : wG.cell? ⟨bc,6,none⟩=_:=HK.out.cell 6 _ rfl;have Z1:=zh (Zone.of (X:=[]) (w0:=wG) b0 (by simp));have Z2:=zh (Zone.of (X:=[]) (w0:=wG) x1 (by simp));have Z3:=zh (Zone.of (X:=[]) (w0:=wG) k1 (by simp));have d0 : wG.cell? ⟨bb,off + k * 3,none⟩=some (str s.name):=HC0.out.cellSome HD0.out (by simp);have d1 : wG.cell? ⟨bb,off + k * 3 + 1,none⟩=some (.int .i64 s.len):=HC0.out.cellSome HD1.out (by simp);have d2 : wG.cell? ⟨bb,off + k * 3 + 2,none⟩=some (.int .i64 s.args):=HC0.out.cellSome HD2.out (by simp);have Z4:=zh (Zone.of (X:=[]) (w0:=wG) d0 (by simp));obtain⟨wF,hwF,hcF,hbF⟩:=set3 (str s.name) (.int .i64 s.len) (.int .i64 s.args) HR.out;have r0 : wG.frozen? ⟨w.heap.size + 1,0,none⟩=_:=HR.out.frozen 0;have r1 : wG.frozen? ⟨w.heap.size + 1,1,none⟩=_:=HR.out.frozen 1;have r2 : wG.frozen? ⟨w.heap.size + 1,2,none⟩=_:=HR.out.frozen 2;have e0 : wG.cell? ⟨w.heap.size + 1,0,none⟩=_:=HR.out.cell 0 _ rfl;have e1 : wG.cell? ⟨w.heap.size + 1,1,none⟩=_:=HR.out.cell 1 _ rfl;have e2 : wG.cell? ⟨w.heap.size + 1,2,none⟩=_:=HR.out.cell 2 _ rfl;have f0:=hbF.cell 0 _ rfl;have f1:=hbF.cell 1 _ rfl;have f2:=hbF.cell 2 _ rfl;have HCF:=zh (show Chg [] w wF from HCW.out.trans hcF (fun x hx=>.inr (by simp at hx;omega)));clear hcF hbF;refine wp_region_T [] rfl (by kernel_rfl) rfl ?_;rw [← hwD];clear hwD;have hS:Chg [] wG wG:=Chg.refl _ _;have hlu : (Instr.lookup 97 vm (str m) false).run Tryz.prog wG = .ok (.slice (some ⟨bb,off,none⟩) l.length uc) wG:=HLK.out wG HC0.out
    repeat ((with_reducible show wpX _ _ _ _ _ _ _ _);(first|refine wpX_nil ?_|refine wpX_skip rfl ?_|refine wpX_mv rfl rfl (by kernel_rfl) (fun _ _=>?_)|refine wpX_ldC rfl rfl rfl (by first|exact Z1.out|exact Z2.out|exact Z3.out|exact Z4.out) (by assumption) (fun _ _=>?_)|refine wpX_ef' rfl rfl rfl (fun _ _=>?_));go_wp2_with fail)
    refine And.intro hS ?_
    repeat ((with_reducible show wpX _ _ _ _ _ _ _ _);(first|refine wpX_nil ?_|refine wpX_skip rfl ?_|refine wpX_mv rfl rfl (by kernel_rfl) (fun _ _=>?_)|refine wpX_ldC rfl rfl rfl (by first|exact Z1.out|exact Z2.out|exact Z3.out|exact Z4.out) (by assumption) (fun _ _=>?_)|refine wpX_ef' rfl rfl rfl (fun _ _=>?_));go_wp2_with fail)
    refine stepX_ef rfl rfl (fun _ _=>?_)
    change Oper.wp _ (Oper.mk ..) ..
    go_wp2_with fail;refine bodyPost_ret (v:=.agg #[str s.name,.int .i64 s.len,.int .i64 s.args]) (by simp [results,Tryz.results165,go_sem,f0,f1,f2]) rfl ?_;rw [HFD.out];exact⟨HCF.out,rfl⟩
end Go.Proofs.YtechofppmnnomaaGreatDoor
