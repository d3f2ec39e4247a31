/- Some texts in one. -/
import Derived.MapKept
import Derived.BigQuiet
import Derived.Test.YtechofppmnnomaaGreatDoorB5
import Derived.Test.YtechofppmnnomaaGreatDoorB14
import Derived.Test.YtechofppmnnomaaGreatDoorB17
namespace Go.Mq.Check
open Go Go.RowKit Go.Mq Go.Mq.Tree Go.Mq.Sym Go.MapKept
def aZ (w:World) (b:Nat) (es:List (List UInt8 × Value)):Prop:=∃ arr clock,w.heap[b]?=some (.map arr clock)∧arr.toList.map (fun e=>(e.key,e.val))=es.map fun p=>(str p.1,p.2)
def getM:List (List UInt8 × Value)→List UInt8→Option Value
 | [],_=>none
 | (k,u) :: r,n=>if k=n then some u else getM r n
def dB:List (List UInt8 × Value)→List UInt8→Value→List (List UInt8 × Value)
 | [],n,v=>[(n,v)]
 | (k,u) :: r,n,v=>if k=n then (k,v) :: r else (k,u) :: dB r n v
def ib:List (List UInt8 × Value)→List UInt8→Nat→Option (Nat × Value)
 | [],_,_=>none
 | (k,u) :: r,n,i=>if k=n then some (i,u) else ib r n (i + 1)
theorem mP : ∀ (es:List (List UInt8 × Value)) (n:List UInt8) (v:Value) (x:List UInt8),getM (dB es n v) x=if n=x then some v else getM es x
 | [],n,v,x=>rfl
 | (k,u) :: r,n,v,x=>by
  rw [dB];by_cases hk : k=n
  ·subst hk
   rw [if_pos rfl,getM,getM];split <;> rfl
  ·rw [if_neg hk,getM,getM,mP r]
   by_cases hx : k=x
   ·subst hx;rw [if_pos rfl,if_pos rfl,if_neg (Ne.symm hk)]
   ·rw [if_neg hx,if_neg hx]
theorem yI : ∀ (es:List (List UInt8 × Value)) (n:List UInt8) (i:Nat),(ib es n i).map (·.2)=getM es n
 | [],_,_=>rfl
 | (k,u) :: r,n,i=>by
  rw [ib,getM];split
  ·rfl
  ·exact yI r n (i + 1)
theorem uK {n:List UInt8} : ∀ {l:List MapEntry} {es:List (List UInt8 × Value)} {i:Nat},l.map (fun e=>(e.key,e.val))=es.map (fun p=>(str p.1,p.2))→Instr.findNow .string (str n) l i=some (ib es n i)
 | [],[],i,_=>rfl
 | [],_ :: _,_,h=>by simp at h
 | _ :: _,[],_,h=>by simp at h
 | e :: l,(k,u) :: es,i,h=>by
  simp only [List.map_cons,List.cons.injEq,Prod.mk.injEq] at h;obtain⟨⟨h1,h2⟩,h3⟩:=h;have hs:Instr.sameNow .string (str n) e.key=some (n == k):=by
   rw [h1]
   show some (bs n == bs k)=_
   rw [JD]
  rw [Instr.findNow,hs,ib];by_cases hk : k=n
  ·subst hk;simp [h2]
  ·have : (n == k)=false:=by simpa using fun h=>hk h.symm
   rw [this,if_neg hk];exact uK h3
theorem CL : ∀ {es:List (List UInt8 × Value)} {n:List UInt8} {i:Nat} {v:Value},ib es n i=none→dB es n v=es ++ [(n,v)]
 | [],_,_,_,_=>rfl
 | (k,u) :: r,n,i,v,h=>by
  rw [ib] at h;split at h
  ·cases h
  ·next hk=>rw [dB,if_neg hk,CL h];rfl
theorem CO : ∀ {es:List (List UInt8 × Value)} {n:List UInt8} {i j:Nat} {u v:Value},ib es n i=some (j,u)→i≤j∧es[j - i]?=some (n,u)∧dB es n v=es.modify (j - i) fun p=>(p.1,v)
 | [],_,_,_,_,_,h=>by cases h
 | (k,u) :: r,n,i,j,u',v,h=>by
  rw [ib] at h;split at h
  ·next hk=>cases h;subst hk;simp [dB]
  ·next hk=>
   obtain⟨h1,h2,h3⟩:=CO (v:=v) h;obtain⟨d,rfl⟩ : ∃ d,j=i + 1 + d:=⟨j - (i + 1),by omega⟩
   rw [show i + 1 + d - (i + 1)=d by omega] at h2 h3;rw [show i + 1 + d - i=d + 1 by omega,dB,if_neg hk,h3];exact⟨by omega,by simpa using h2,by simp⟩
theorem aZ.kept {S:List Nat} {w w':World} {b:Nat} {es:List (List UInt8 × Value)} (h:aZ w b es) (hc:ae S w w') (hn : b∉S):aZ w' b es:=by
 obtain⟨arr,clock,hb,he⟩:=h;exact⟨arr,clock,by rw [hc.block b (Array.getElem?_eq_some_iff.1 hb).1 hn];exact hb,he⟩
theorem aZ.lt {w:World} {b:Nat} {es:List (List UInt8 × Value)} (h:aZ w b es) : b < w.heap.size:=by
 obtain⟨arr,clock,hb,he⟩:=h;exact(Array.getElem?_eq_some_iff.1 hb).1
theorem aZ.made (w:World):aZ (w.alloc (.map #[] 0)) w.heap.size []:=⟨#[],0,heap_alloc_new w _,rfl⟩
section
variable {P:Program} {T K E:TypeId} {w:World} {b:Nat} {es:List (List UInt8 × Value)} {z:Value}
theorem jm (hT:P.underlying T=some (.map K E)) (hK:P.underlying K=some .string) (hz : (zeroValue E).run P w = .ok z w) (h:aZ w b es) (n:List UInt8) :
  (Instr.lookup T (.map (some b)) (str n) false).run P w = .ok ((getM es n).getD z) w:=by
 obtain⟨arr,clock,hb,he⟩:=h;have hf:=uK (n:=n) (i:=0) he;rw [← yI es n 0];cases hi : ib es n 0 with
 | none=>rw [hi] at hf;simp [Instr.lookup,run_underlying hT,Go.MapKept.run_getObj_map hb,Go.MapKept.run_checkKey (d:=.string) (k:=str n) hK trivial,Go.MapKept.run_findKey hK hf,hz,Result.andThen]
 | some p=>obtain⟨i,u⟩:=p;rw [hi] at hf;simp [Instr.lookup,run_underlying hT,Go.MapKept.run_getObj_map hb,Go.MapKept.run_checkKey (d:=.string) (k:=str n) hK trivial,Go.MapKept.run_findKey hK hf,Result.andThen]
theorem jV (hT:P.underlying T=some (.map K E)) (hK:P.underlying K=some .string) (hz : (zeroValue E).run P w = .ok z w) (h:aZ w b es) (n:List UInt8) :
  (Instr.lookup T (.map (some b)) (str n) true).run P w = .ok (.tuple #[(getM es n).getD z,.bool (getM es n).isSome]) w:=by
 obtain⟨arr,clock,hb,he⟩:=h;have hf:=uK (n:=n) (i:=0) he;rw [← yI es n 0];cases hi : ib es n 0 with
 | none=>rw [hi] at hf;simp [Instr.lookup,run_underlying hT,Go.MapKept.run_getObj_map hb,Go.MapKept.run_checkKey (d:=.string) (k:=str n) hK trivial,Go.MapKept.run_findKey hK hf,hz,Result.andThen]
 | some p=>obtain⟨i,u⟩:=p;rw [hi] at hf;simp [Instr.lookup,run_underlying hT,Go.MapKept.run_getObj_map hb,Go.MapKept.run_checkKey (d:=.string) (k:=str n) hK trivial,Go.MapKept.run_findKey hK hf,Result.andThen]
theorem mQ (hT:P.underlying T=some (.map K E)) (hK:P.underlying K=some .string) (hz : (zeroValue E).run P w = .ok z w) (n:List UInt8) (ok:Bool) :
  (Instr.lookup T (.map none) (str n) ok).run P w = .ok (if ok then .tuple #[z,.bool false] else z) w:=by
 have hf:Instr.findNow .string (str n) [] 0=some none:=rfl;cases ok <;> simp [Instr.lookup,run_underlying hT,Go.MapKept.run_checkKey (d:=.string) (k:=str n) hK trivial,Go.MapKept.run_findKey hK hf,hz,Result.andThen]
theorem jo (hT:P.underlying T=some (.map K E)) (hK:P.underlying K=some .string) (h:aZ w b es) (n:List UInt8) (v:Value) :
  ∃ w',(Instr.mapUpdate T (.map (some b)) (str n) v).run P w = .ok () w'∧aZ w' b (dB es n v)∧ae [b] w w':=by
 obtain⟨arr,clock,hb,he⟩:=h;have hlt:=(Array.getElem?_eq_some_iff.1 hb).1;have hf:=uK (n:=n) (i:=0) he;have hck : ∀ o:Obj,ae [b] w { w with heap:=w.heap.setIfInBounds b o }:=fun o=>⟨rfl,rfl,rfl,by simp,fun k _ hk=>by
  show (w.heap.setIfInBounds b _)[k]?=_
  rw [Array.getElem?_setIfInBounds_ne (fun e=>hk (by simp [e]))]⟩
 cases hi : ib es n 0 with
 | none=>
  rw [hi] at hf;refine⟨{ w with heap:=w.heap.setIfInBounds b (.map (arr.push { key:=str n,val:=v,born:=clock }) (clock + 1)) },by simp [Instr.mapUpdate,run_underlying hT,Go.MapKept.run_getObj_map hb,Go.MapKept.run_checkKey (d:=.string) (k:=str n) hK trivial,Go.MapKept.run_findKey hK hf,Go.MapKept.run_setObj_map _ hb,Result.andThen],⟨_,_,by simp [hlt];exact⟨rfl,rfl⟩,?_⟩,hck _⟩;rw [CL hi];simp [he]
 | some p=>
  obtain⟨j,u⟩:=p;rw [hi] at hf;obtain⟨_,h2,h3⟩:=CO (v:=v) hi;rw [Nat.sub_zero] at h2 h3;have hj : ∃ e,arr[j]?=some e∧e.key=str n:=by
   have:=congrArg (fun l=>l[j]?) he;simp only [List.getElem?_map,h2,Option.map_some] at this;cases ha : arr.toList[j]? with
   | none=>rw [ha] at this;simp at this
   | some e=>rw [ha] at this;simp at this;exact⟨e,by simpa using ha,this.1⟩
  obtain⟨e,hj,hk⟩:=hj;refine⟨{ w with heap:=w.heap.setIfInBounds b (.map (arr.modify j fun e=>{ e with key:=str n,val:=v }) clock) },by simp [Instr.mapUpdate,run_underlying hT,Go.MapKept.run_getObj_map hb,Go.MapKept.run_checkKey (d:=.string) (k:=str n) hK trivial,Go.MapKept.run_findKey hK hf,hj,hk,Go.MapKept.run_keyThatStays (d:=.string) (k:=str n) trivial,Go.MapKept.run_setObj_map _ hb,Result.andThen],⟨_,_,by simp [hlt];exact⟨rfl,rfl⟩,?_⟩,hck _⟩;rw [h3]
  apply List.ext_getElem?
  intro i;have hi':=congrArg (fun l=>l[i]?) he;simp only [List.getElem?_map] at hi';simp only [List.getElem?_map,Array.toList_modify,List.getElem?_modify];by_cases hij : j=i
  ·subst hij
   rw [h2];have : arr.toList[j]?=some e:=by simpa using hj
   rw [this];simp
  ·simp only [if_neg hij]
   cases ha : arr.toList[i]? <;> cases hb' : es[i]? <;> simp_all
end
def jW (w:World) (b:Nat) (had:List (List UInt8)):Prop:=∃ es,aZ w b es ∧ ∀ n,getM es n=if n∈had then some (.bool true) else none
theorem jW.kept {S:List Nat} {w w':World} {b:Nat} {had:List (List UInt8)} (h:jW w b had) (hc:ae S w w') (hn : b∉S):jW w' b had:=by
 obtain⟨es,h1,h2⟩:=h;exact⟨es,h1.kept hc hn,h2⟩
theorem jW.made (w:World):jW (w.alloc (.map #[] 0)) w.heap.size []:=⟨[],aZ.made w,fun n=>by simp [getM]⟩
def rJ (w:World) (F:Nat→Prop) (seen:List UInt8→Option (List Sy)) (v:Value):Prop:=
 (v = .map none ∧ ∀ n,seen n=none) ∨ ∃ b es,v = .map (some b)∧F b∧aZ w b es ∧ ∀ n,match seen n with
  | none=>getM es n=none
  | some l=>l.length≤1000 ∧ ∃ u,getM es n=some u∧lY w F l u
theorem rJ.kept {S:List Nat} {w w':World} {F:Nat→Prop} {seen:List UInt8→Option (List Sy)} {v:Value} (h:rJ w F seen v) (hc:ae S w w') (hS : ∀ x∈S,¬ F x):rJ w' F seen v:=by
 rcases h with h|⟨b,es,h1,h2,h3,h4⟩
 ·exact .inl h
 ·refine .inr ⟨b,es,h1,h2,h3.kept hc fun hm=>hS _ hm h2,fun n=>?_⟩
  have:=h4 n;cases hs : seen n with
  | none=>rw [hs] at this;exact this
  | some l=>
   rw [hs] at this;obtain⟨h5,u,h6,h7⟩:=this;exact⟨h5,u,h6,h7.kept hc hS⟩
theorem rJ.mono {w:World} {F G:Nat→Prop} {seen:List UInt8→Option (List Sy)} {v:Value} (h:rJ w F seen v) (hF : ∀ x,F x→G x):rJ w G seen v:=by
 rcases h with h|⟨b,es,h1,h2,h3,h4⟩
 ·exact .inl h
 ·refine .inr ⟨b,es,h1,hF _ h2,h3,fun n=>?_⟩
  have:=h4 n;cases hs : seen n with
  | none=>rw [hs] at this;exact this
  | some l=>
   rw [hs] at this;obtain⟨h5,u,h6,h7⟩:=this;exact⟨h5,u,h6,h7.mono hF⟩
structure lZ (w:World) (F:Nat→Prop) (c:Env) (bc:Nat):Prop where
 own:F bc
 JR : c.imports.length≤1000
 JS : c.locals.length≤1000
 oF : c.vars.length≤1000
 tq : c.procs.length≤1000
 at_ : ∃ nm vi vv vp vb vm vl,ag w bc #[str nm,vi,vv,vp,vb,vm,vl] 157∧eF w F c.imports vi∧lD w F c.vars vv∧pX w F c.procs vp∧rJ w F c.seen vm∧eF w F c.locals vl
theorem lZ.kept {S:List Nat} {w w':World} {F:Nat→Prop} {c:Env} {bc:Nat} (h:lZ w F c bc) (hc:ae S w w') (hS : ∀ x∈S,¬ F x):lZ w' F c bc:=by
 obtain⟨nm,vi,vv,vp,vb,vm,vl,h1,h2,h3,h4,h5,h6⟩:=h.at_;exact⟨h.own,h.JR,h.JS,h.oF,h.tq,nm,vi,vv,vp,vb,vm,vl,h1.kept hc fun hm=>hS _ hm h.own,h2.kept hc hS,h3.kept hc hS,h4.kept hc hS,h5.kept hc hS,h6.kept hc hS⟩
abbrev thrown (b:Nat):Ending:=.panicked [{ v:=.iface 149 (.agg #[.iface 140 (ptr b)]),recovered:=false }]
def jI (S:List Nat) (w:World) (r:dX) (e:Ending) (w':World):Prop:=ae S w w'∧match r with
 | none=>e = .returned (.tuple #[])
 | some (en,p)=>∃ b,e=thrown b∧w.heap.size≤b∧ag w' b #[.int .i64 en,.int .i64 p] 142
theorem jI.after {S:List Nat} {w w1 w':World} {r:dX} {e:Ending} (h:jI S w1 r e w') (hc:ae S w w1):jI S w r e w':=by
 refine⟨hc.then h.1,?_⟩;have:=h.2;cases r with
 | none=>exact this
 | some x=>
  obtain⟨b,h1,h2,h3⟩:=this;have:=hc.size;exact⟨b,h1,by omega,h3⟩
end Go.Mq.Check
namespace Go.Mq.Check
open Go Go.RowKit Go.Mq Go.Mq.Tree Go.Mq.Sym
theorem YW {es:List (List UInt8 × Value)} {had:List (List UInt8)} {n:List UInt8} (h : ∀ n,getM es n=if n∈had then some (.bool true) else none) : (getM es n).getD (.bool false) = .bool (decide (n∈had)):=by
 rw [h];by_cases hn : n∈had <;> simp [hn]
end Go.Mq.Check
namespace Go.Proofs.YtechofppmnnomaaGreatDoor
open Go Go.RowKit Go.Mq Go.Mq.Tree Go.Mq.Sym Go.Mq.Check
set_option maxRecDepth 100000
set_option maxHeartbeats 2000000
theorem YX (w:World) : (zeroValue 4).run Tryz.prog w = .ok (.bool false) w:=by kernel_rfl
theorem F5 (w:World) : (zeroValue 120).run Tryz.prog w = .ok ah w:=by kernel_rfl
theorem yQ (en p:Nat) (w:World):Calls Tryz.prog 112 #[.int .i64 en,.int .i64 p] w (jI [] w (some (en,p))):=by
 go_enter Tryz.func112,Tryz.ntmps112
 go_wp2_with fail;exact⟨rfl,(ae.refl _ _).alloc _,w.heap.size,rfl,Nat.le_refl _,ag.new _ _ _⟩
theorem JU (had:List (List UInt8)) (n:List UInt8) (p b:Nat) (w:World) (h:jW w b had) :
  Calls Tryz.prog 78 #[.map (some b),str n,.int .i64 p] w (fun e w'=>if n∈had then jI [b] w (some (9,p)) e w' else e = .returned (.tuple #[])∧ae [b] w w'∧jW w' b (n :: had)):=by
 obtain⟨es,hm,hes⟩:=h;have hl:=jm (P:=Tryz.prog) Tryz.underlying152 Tryz.underlying9 (YX w) hm n;rw [YW hes] at hl;by_cases hn : n∈had
 ·rw [show decide (n∈had)=true by simpa using hn] at hl
  simp only [if_pos hn];have HF:=zh (yQ 9 p w);clear hm hes hn
  go_enter Tryz.func78,Tryz.ntmps78
  go_wp2_with fail;refine HF.out.mono ?_;rintro _ w1 ⟨hc,b1,rfl,hlt,hb⟩;have HC:=zh hc;have HB:=zh hb;clear hc hb;go_wp2_with fail;exact⟨rfl,HC.out.mono (by simp),b1,rfl,hlt,HB.out⟩
 ·rw [show decide (n∈had)=false by simpa using hn] at hl
  simp only [if_neg hn];obtain⟨w',hu,hm',hc'⟩:=jo (P:=Tryz.prog) Tryz.underlying152 Tryz.underlying9 hm n (.bool true);have HM:=zh (show jW w' b (n :: had) from⟨_,hm',fun x=>by
   rw [mP,hes];by_cases hx : n=x
   ·subst hx;simp
   ·rw [if_neg hx];simp [Ne.symm hx]⟩)
  have HC:=zh hc';clear hm hes hn hm' hc'
  go_enter Tryz.func78,Tryz.ntmps78
  go_wp2_with fail;refine bodyPost_end (results_none rfl _ _ _) rfl ?_;exact⟨rfl,HC.out,HM.out⟩
theorem YY (l:List (List UInt8)) (hl : l.length≤1000) (n:List UInt8) (F:Nat→Prop) (v:Value) (w:World) (h:eF w F l v) :
  Calls Tryz.prog 48 #[v,str n] w (fun e w'=>∃ r:Int,e = .returned (.int .i64 r) ∧ -1≤r∧r≤1000∧decide (0≤r)=decide (n∈l)∧w'=w):=by
 obtain⟨a,c,rfl,hac,hrow⟩:=h;have iD:=zh hrow;clear hrow
 go_enter Tryz.func48,Tryz.ntmps48
 go_wp2_with fail
 go_loopw [5,8] (fun _ i wr=>∃ k:Nat,i = .int .i64 k∧k≤l.length∧w=wr ∧ ∀ (i:Nat) (x:List UInt8),i < k→l[i]?=some x→x≠n) (fun _ i _=>l.length - (intOf i).toNat)
 case atStart=>exact⟨0,rfl,Nat.zero_le _,rfl,fun i x hi=>by omega⟩
 case round=>
  obtain⟨k,rfl,hk,rfl,hno⟩:=hrel;have pW:=zh hno;clear hno;by_cases hlt : k < l.length
  ·obtain⟨x,hs⟩ : ∃ x,l[k]?=some x:=⟨l[k],List.getElem?_eq_getElem hlt⟩
   obtain⟨b,o,rfl,d0⟩:=xe iD.out hs;have HS:=zh hs;clear hs;cases hq : (n == x) with
   | true=>
    have yR:=zh (show n∈l by
     have : n=x:=by simpa using hq
     rw [this];exact List.mem_of_getElem? HS.out)
    go_wp2_with fail;go_ret
    exact⟨k,rfl,by omega,by omega,by simp [yR.out],rfl⟩
   | false=>
    have HN:=zh (show x≠n by intro h;subst h;simp at hq);go_wp2_with fail;refine⟨⟨k + 1,by go_num,by omega,by first|rfl|trivial,fun i y hi hx=>?_⟩,by simp [intOf];omega⟩;by_cases he : i < k
    ·exact pW.out i y he hx
    ·have : i=k:=by omega
     subst this;rw [HS.out] at hx;cases hx
     exact HN.out
  ·have hall : n∉l:=fun hn=>by
    obtain⟨i,hi⟩:=List.getElem?_of_mem hn;exact pW.out i n (by have:=(List.getElem?_eq_some_iff.1 hi).1;omega) hi rfl
   have HA:=zh hall;clear hall;go_wp2_with fail;go_ret
   exact⟨-1,rfl,by omega,by omega,by simp [HA.out],rfl⟩
theorem F6 (l:List (List UInt8)) (hl : l.length≤1000) (n:List UInt8) (F:Nat→Prop) (v:Value) (w:World) (h:eF w F l v) :
  Calls Tryz.prog 22 #[v,str n] w (fun e w'=>e = .returned (.bool (decide (n∈l)))∧w'=w):=by
 have HI:=zh (YY l hl n F v w h);clear h
 go_enter Tryz.func22,Tryz.ntmps22
 go_wp2_with fail;refine HI.out.mono ?_;rintro _ w1 ⟨r,rfl,h0,h1,hq,hw⟩;have HQ:=zh hq;have HW:=zh hw;clear hq hw;go_wp2_with fail;go_ret
 exact⟨by rw [← HQ.out];simp,HW.out⟩
theorem YZ (g:bJ) (n:List UInt8) (be b0:Nat) (c0 c1 c2 c3 c5 c6 c7 c8:Value) (w:World) (hx : w.cell? ⟨b0,0,none⟩=some (ptr be)) (hb:ag w be #[c0,c1,c2,c3,str n,c5,c6,c7,c8] 192) :
  Calls Tryz.prog 183 #[.agg #[str g.name,.int .i64 g.pos,.int .i64 g.len,.bool g.seen],ptr b0] w (fun e w'=>e = .returned (.bool (g.name == n))∧ae [] w w'):=by
 have hx':=((ae.refl [] w).alloc (.cells #[str g.name,.int .i64 g.pos,.int .i64 g.len,.bool g.seen] 68)).aH hx (by simp);have d4:=((ae.refl [] w).alloc (.cells #[str g.name,.int .i64 g.pos,.int .i64 g.len,.bool g.seen] 68)).aH (hb.cell 4 _ rfl) (by simp);have n0 : b0≠w.heap.size:=by have:=lt_of_cell hx;simp at this;omega
 have n1 : be≠w.heap.size:=by have:=hb.lt;omega
 have z:=ag.new w #[str g.name,.int .i64 g.pos,.int .i64 g.len,.bool g.seen] 68;have z0:=z.cell 0 _ rfl;clear hx hb z
 go_enter Tryz.func183,Tryz.ntmps183
 go_wp2_with fail
 go_region
 all_goals (try go_wp2_with fail)
 all_goals go_ret
 all_goals exact⟨rfl,((ae.refl _ _).alloc _).drew⟩
end Go.Proofs.YtechofppmnnomaaGreatDoor
namespace Go.Mq.Check
open Go Go.RowKit Go.Mq Go.Mq.Tree Go.Mq.Sym
theorem CX {α:Type} {l:List α} {k:Nat} {x : α} (h : l[k]?=some x) : l=l.take k ++ x :: l.drop (k + 1)∧(l.take k).length=k:=by
 obtain⟨hk,he⟩:=List.getElem?_eq_some_iff.1 h;refine⟨?_,by simp;omega⟩;rw [← he,← List.drop_eq_getElem_cons hk,List.take_append_drop]
theorem JV : ∀ l:List bJ,(l.flatMap bJ.cells).length=l.length * 4
 | []=>rfl
 | x :: r=>by rw [List.flatMap_cons,List.length_append,JV r];simp [bJ.cells];omega
theorem CY {w:World} {F:Nat→Prop} {a:Option Addr} {l:List bJ} (h:Row w F a (l.flatMap bJ.cells)) {k:Nat} {g:bJ} (hk : l[k]?=some g) :
  ∃ bb off,a=some ⟨bb,off,none⟩∧w.cell? ⟨bb,off + k * 4,none⟩=some (str g.name)∧w.cell? ⟨bb,off + k * 4 + 1,none⟩=some (.int .i64 g.pos)∧w.cell? ⟨bb,off + k * 4 + 2,none⟩=some (.int .i64 g.len)∧w.cell? ⟨bb,off + k * 4 + 3,none⟩=some (.bool g.seen):=by
 obtain⟨h1,h2⟩:=CX hk;rw [h1,List.flatMap_append,List.flatMap_cons] at h;exact Pz (cs':=(l.drop (k + 1)).flatMap bJ.cells) h (by rw [JV,h2])
theorem PT : ∀ {l:List aX} {cs:List Value} {k:Nat} {x:aX},CV l cs→l[k]?=some x → ∃ cs1 c cs',cs=cs1 ++ (c ++ cs')∧cs1.length=k * 6∧Pw x c
 | [],_,_,_,_,hk=>by simp at hk
 | y :: r,_,0,x,h,hk=>by
  obtain⟨c1,c2,rfl,h1,h2⟩:=h;simp at hk;subst hk
  exact⟨[],c1,c2,rfl,rfl,h1⟩
 | y :: r,_,k + 1,x,h,hk=>by
  obtain⟨c1,c2,rfl,⟨_,_,_,_,_,_,_,_,_,rfl⟩,h2⟩:=h;obtain⟨cs1,c,cs',rfl,hl,hp⟩:=PT h2 (by simpa using hk);exact⟨_ ++ cs1,c,cs',by rw [List.append_assoc],by simp [hl];omega,hp⟩
theorem PU {w:World} {F:Nat→Prop} {l:List aX} {v:Value} (h:pX w F l v) {k:Nat} {x:aX} (hk : l[k]?=some x) :
  ∃ (bb off c:Nat) (pos:Int) (a1:Option Addr) (k1:Nat) (a2:Option Addr) (n2 k2:Nat) (a3:Option Addr) (n3 k3:Nat),v = .slice (some ⟨bb,off,none⟩) l.length c∧l.length≤c∧w.cell? ⟨bb,off + k * 6,none⟩=some (str x.name)∧w.cell? ⟨bb,off + k * 6 + 1,none⟩=some (.int .i64 pos) ∧
   w.cell? ⟨bb,off + k * 6 + 2,none⟩=some (.bool x.seen)∧w.cell? ⟨bb,off + k * 6 + 3,none⟩=some (.slice a1 x.params.length k1)∧w.cell? ⟨bb,off + k * 6 + 4,none⟩=some (.slice a2 n2 k2)∧w.cell? ⟨bb,off + k * 6 + 5,none⟩=some (.slice a3 n3 k3):=by
 obtain⟨a,c,cs,rfl,hlc,hrow,hps⟩:=h;obtain⟨cs1,d,cs',rfl,hl,pos,a1,k1,a2,n2,k2,a3,n3,k3,rfl⟩:=PT hps hk;obtain⟨bb,off,rfl,d0,d1,d2,d3,d4,d5⟩:=yO (cs':=cs') hrow hl;exact⟨bb,off,c,pos,a1,k1,a2,n2,k2,a3,n3,k3,rfl,hlc,d0,d1,d2,d3,d4,d5⟩
def ik {α:Type} (l:List α) (f : α→Bool) (e:Ending):Prop:=match l.find? f with
 | none=>e = .returned (.int .i64 (-1))
 | some x=>∃ k:Nat,l[k]?=some x∧e = .returned (.int .i64 k)
def lI {α:Type} (l:List α) (f : α→Bool) (k:Nat):Prop:=(l.take k).find? f=none
section
variable {α:Type} {l:List α} {f : α→Bool} {k:Nat} {x : α} {e:Ending}
theorem lI.zero:lI l f 0:=rfl
theorem lI.next (h:lI l f k) (hk : l[k]?=some x) (hx : f x=false):lI l f (k + 1):=by
 obtain⟨hlt,rfl⟩:=List.getElem?_eq_some_iff.1 hk;rw [lI,List.take_succ_eq_append_getElem hlt,List.find?_append,h];simp [hx]
theorem lI.here (h:lI l f k) (hk : l[k]?=some x) (hx : f x=true):ik l f (.returned (.int .i64 k)):=by
 have : l.find? f=some x:=by
  rw [(CX hk).1,List.find?_append,h];simp [hx]
 rw [ik,this];exact⟨k,hk,rfl⟩
theorem lI.all (h:lI l f k) (hk : ¬ k < l.length):ik l f (.returned (.int .i64 (-1))):=by
 rw [lI,List.take_of_length_le (Nat.le_of_not_lt hk)] at h;rw [ik,h]
theorem ik.num (h:ik l f e) : ∃ n:Int,e = .returned (.int .i64 n)∧decide (0≤n)=l.any f:=by
 rw [ik] at h;cases hx : l.find? f with
 | none=>rw [hx] at h;exact⟨-1,h,by simpa using hx⟩
 | some x=>
  rw [hx] at h;obtain⟨k,_,rfl⟩:=h;exact⟨k,rfl,((List.any_eq_true (l:=l)).2 ⟨x,List.mem_of_find?_eq_some hx,List.find?_some hx⟩).symm ▸ by simp⟩
end
def Y0 (w:World) (g:oH) (e:Ending) (w':World):Prop:=match g with
 | .is s=>ae [] w w'∧e = .returned (.agg #[str s.name,.int .i64 s.len,.int .i64 s.args])
 | .bad en p=>jI [] w (some (en,p)) e w'
end Go.Mq.Check
namespace Go.Proofs.YtechofppmnnomaaGreatDoor
open Go Go.RowKit Go.Mq Go.Mq.Tree Go.Mq.Sym Go.Mq.Check
set_option maxRecDepth 100000
set_option maxHeartbeats 2000000
theorem Y2 (x:aX) (n:List UInt8) (pos:Int) (a1:Option Addr) (k1:Nat) (a2:Option Addr) (n2 k2:Nat) (a3:Option Addr) (n3 k3:Nat) (be b0:Nat) (c0 c1 c2 c3 c5 c6 c7 c8:Value) (w:World) (hx : w.cell? ⟨b0,0,none⟩=some (ptr be)) (hb:ag w be #[c0,c1,c2,c3,str n,c5,c6,c7,c8] 192) :
  Calls Tryz.prog 184 #[.agg #[str x.name,.int .i64 pos,.bool x.seen,.slice a1 x.params.length k1,.slice a2 n2 k2,.slice a3 n3 k3],ptr b0] w (fun e w'=>e = .returned (.bool (x.name == n))∧ae [] w w'):=by
 have hx':=((ae.refl [] w).alloc (.cells #[str x.name,.int .i64 pos,.bool x.seen,.slice a1 x.params.length k1,.slice a2 n2 k2,.slice a3 n3 k3] 72)).aH hx (by simp);have d4:=((ae.refl [] w).alloc (.cells #[str x.name,.int .i64 pos,.bool x.seen,.slice a1 x.params.length k1,.slice a2 n2 k2,.slice a3 n3 k3] 72)).aH (hb.cell 4 _ rfl) (by simp);have n0 : b0≠w.heap.size:=by have:=lt_of_cell hx;simp at this;omega
 have n1 : be≠w.heap.size:=by have:=hb.lt;omega
 have z:=ag.new w #[str x.name,.int .i64 pos,.bool x.seen,.slice a1 x.params.length k1,.slice a2 n2 k2,.slice a3 n3 k3] 72;have z0:=z.cell 0 _ rfl;clear hx hb z
 go_enter Tryz.func184,Tryz.ntmps184
 go_wp2_with fail
 go_region
 all_goals (try go_wp2_with fail)
 all_goals go_ret
 all_goals exact⟨rfl,((ae.refl _ _).alloc _).drew⟩
theorem PW (cs:Array Value) (di:FuncId) (hF : ∀ (args:Array Value) (w:World),(callFunc di args).run Tryz.prog w = .ok (.enter di args) w) (l:List bJ) (hl : l.length≤1000) (f:bJ→Bool) (F:Nat→Prop) (v:Value) (w:World) (h:lD w F l v)
  (hf : ∀ x∈l,∀ w',ae [] w w'→Calls Tryz.prog di (#[(.agg #[str x.name,.int .i64 x.pos,.int .i64 x.len,.bool x.seen] : Value)] ++ cs) w' (fun e w''=>e = .returned (.bool (f x))∧ae [] w' w'')) :
  Calls Tryz.prog 56 #[v,.func (.func di) #[] cs] w (fun e w'=>ik l f e∧ae [] w w'):=by
 have HA:=zh h;have HF:=zh hf;obtain⟨a,c,rfl,hac,hrow⟩:=h;clear hrow hf
 go_enter Tryz.func56,Tryz.ntmps56
 go_wp2_with fail
 go_loopw [5,8] (fun _ i wr=>∃ k:Nat,i = .int .i64 k∧k≤l.length∧Hid (lI l f k∧ae [] w wr)) (fun _ i _=>l.length - (intOf i).toNat)
 case atStart=>exact⟨0,rfl,Nat.zero_le _,zh ⟨.zero,.refl _ _⟩⟩
 case round=>
  obtain⟨k,rfl,hk,HS⟩:=hrel;by_cases hlt : k < l.length
  rotate_left
  ·go_wp2_with fail
   go_ret
   exact⟨HS.out.1.all hlt,HS.out.2⟩
  obtain⟨x,hx⟩ : ∃ x,l[k]?=some x:=⟨l[k],List.getElem?_eq_getElem hlt⟩
  obtain⟨_,_,hv,_,hrow⟩:=HA.out;cases hv
  obtain⟨bb,off,rfl,d0,d1,d2,d3⟩:=CY (hrow.kept HS.out.2 (by simp)) hx;clear hrow;have HI:=zh (HF.out x (List.mem_of_getElem? hx) wr HS.out.2);have HX:=zh hx;obtain⟨b,hb⟩ : ∃ b,b=f x:=⟨_,rfl⟩
  rw [← hb] at HI;have HB:=zh hb.symm;clear hx hb;go_wp2_with fail;refine HI.out.mono ?_;rintro _ w2 ⟨rfl,hq⟩;have HQ:=zh (HS.out.2.then hq);clear hq;cases b
  all_goals go_wp2_with fail
  ·exact⟨⟨k + 1,by go_num,by omega,zh ⟨HS.out.1.next HX.out HB.out,HQ.out⟩⟩,by simp [intOf];omega⟩
  ·go_ret
   exact⟨HS.out.1.here HX.out HB.out,HQ.out⟩
theorem PX (cs:Array Value) (di:FuncId) (hF : ∀ (args:Array Value) (w:World),(callFunc di args).run Tryz.prog w = .ok (.enter di args) w) (l:List bJ) (hl : l.length≤1000) (f:bJ→Bool) (F:Nat→Prop) (v:Value) (w:World) (h:lD w F l v)
  (hf : ∀ x∈l,∀ w',ae [] w w'→Calls Tryz.prog di (#[(.agg #[str x.name,.int .i64 x.pos,.int .i64 x.len,.bool x.seen] : Value)] ++ cs) w' (fun e w''=>e = .returned (.bool (f x))∧ae [] w' w'')) :
  Calls Tryz.prog 25 #[v,.func (.func di) #[] cs] w (fun e w'=>e = .returned (.bool (l.any f))∧ae [] w w'):=by
 have HI:=zh (PW cs di hF l hl f F v w h hf);clear h hf
 go_enter Tryz.func25,Tryz.ntmps25
 go_wp2_with fail;refine HI.out.mono ?_;rintro _ w1 ⟨hat,hc⟩;obtain⟨n,rfl,hn⟩:=hat.num;have HC:=zh hc;have HN:=zh hn;clear hc hat hn;go_wp2_with fail;go_ret
 exact⟨by rw [← HN.out] <;> rfl,HC.out⟩
theorem F7 (cs:Array Value) (di:FuncId) (hF : ∀ (args:Array Value) (w:World),(callFunc di args).run Tryz.prog w = .ok (.enter di args) w) (l:List aX) (hl : l.length≤1000) (f:aX→Bool) (F:Nat→Prop) (v:Value) (w:World) (h:pX w F l v)
  (hf : ∀ x∈l,∀ (pos:Int) (a1:Option Addr) (k1:Nat) (a2:Option Addr) (n2 k2:Nat) (a3:Option Addr) (n3 k3:Nat),∀ w',ae [] w w'→Calls Tryz.prog di (#[(.agg #[str x.name,.int .i64 pos,.bool x.seen,.slice a1 x.params.length k1,.slice a2 n2 k2,.slice a3 n3 k3] : Value)] ++ cs) w' (fun e w''=>e = .returned (.bool (f x))∧ae [] w' w'')) :
  Calls Tryz.prog 57 #[v,.func (.func di) #[] cs] w (fun e w'=>ik l f e∧ae [] w w'):=by
 have HA:=zh h;have HF:=zh hf;obtain⟨a,c,ps,rfl,hac,hrow,hps⟩:=h;clear hrow hps hf
 go_enter Tryz.func57,Tryz.ntmps57
 go_wp2_with fail
 go_loopw [5,8] (fun _ i wr=>∃ k:Nat,i = .int .i64 k∧k≤l.length∧Hid (lI l f k∧ae [] w wr)) (fun _ i _=>l.length - (intOf i).toNat)
 case atStart=>exact⟨0,rfl,Nat.zero_le _,zh ⟨.zero,.refl _ _⟩⟩
 case round=>
  obtain⟨k,rfl,hk,HS⟩:=hrel;by_cases hlt : k < l.length
  rotate_left
  ·go_wp2_with fail
   go_ret
   exact⟨HS.out.1.all hlt,HS.out.2⟩
  obtain⟨x,hx⟩ : ∃ x,l[k]?=some x:=⟨l[k],List.getElem?_eq_getElem hlt⟩
  obtain⟨bb,off,cc,pos,a1,k1,a2,n2,k2,a3,n3,k3,hv,_,d0,d1,d2,d3,d4,d5⟩:=PU (pX.kept HA.out HS.out.2 (by simp)) hx;cases hv
  have HI:=zh (HF.out x (List.mem_of_getElem? hx) pos a1 k1 a2 n2 k2 a3 n3 k3 wr HS.out.2);have HX:=zh hx;obtain⟨b,hb⟩ : ∃ b,b=f x:=⟨_,rfl⟩
  rw [← hb] at HI;have HB:=zh hb.symm;clear hx hb;go_wp2_with fail;refine HI.out.mono ?_;rintro _ w2 ⟨rfl,hq⟩;have HQ:=zh (HS.out.2.then hq);clear hq;cases b
  all_goals go_wp2_with fail
  ·exact⟨⟨k + 1,by go_num,by omega,zh ⟨HS.out.1.next HX.out HB.out,HQ.out⟩⟩,by simp [intOf];omega⟩
  ·go_ret
   exact⟨HS.out.1.here HX.out HB.out,HQ.out⟩
theorem Y4 (cs:Array Value) (di:FuncId) (hF : ∀ (args:Array Value) (w:World),(callFunc di args).run Tryz.prog w = .ok (.enter di args) w) (l:List aX) (hl : l.length≤1000) (f:aX→Bool) (F:Nat→Prop) (v:Value) (w:World) (h:pX w F l v)
  (hf : ∀ x∈l,∀ (pos:Int) (a1:Option Addr) (k1:Nat) (a2:Option Addr) (n2 k2:Nat) (a3:Option Addr) (n3 k3:Nat),∀ w',ae [] w w'→Calls Tryz.prog di (#[(.agg #[str x.name,.int .i64 pos,.bool x.seen,.slice a1 x.params.length k1,.slice a2 n2 k2,.slice a3 n3 k3] : Value)] ++ cs) w' (fun e w''=>e = .returned (.bool (f x))∧ae [] w' w'')) :
  Calls Tryz.prog 27 #[v,.func (.func di) #[] cs] w (fun e w'=>e = .returned (.bool (l.any f))∧ae [] w w'):=by
 have HI:=zh (F7 cs di hF l hl f F v w h hf);clear h hf
 go_enter Tryz.func27,Tryz.ntmps27
 go_wp2_with fail;refine HI.out.mono ?_;rintro _ w1 ⟨hat,hc⟩;obtain⟨n,rfl,hn⟩:=hat.num;have HC:=zh hc;have HN:=zh hn;clear hc hat hn;go_wp2_with fail;go_ret
 exact⟨by rw [← HN.out] <;> rfl,HC.out⟩
end Go.Proofs.YtechofppmnnomaaGreatDoor
namespace Go.Mq.Check
open Go Go.RowKit Go.Mq Go.Mq.Tree Go.Mq.Sym
theorem Y5 {w:World} {F:Nat→Prop} {seen:List UInt8→Option (List Sy)} {b:Nat} {es:List (List UInt8 × Value)} {n:List UInt8} (h : match seen n with
  | none=>getM es n=none
  | some l=>l.length≤1000 ∧ ∃ u,getM es n=some u∧lY w F l u) : ((seen n).getD []).length≤1000∧lY w F ((seen n).getD []) ((getM es n).getD ah):=by
 cases hs : seen n with
 | none=>
  rw [hs] at h;simp only at h;rw [h];exact⟨by simp,none,0,rfl,Nat.le_refl _,Row.nil _ _ _,fun _=>rfl⟩
 | some l=>
  rw [hs] at h;obtain⟨h1,u,h2,h3⟩:=h;rw [h2];exact⟨h1,h3⟩
end Go.Mq.Check
namespace Go.Proofs.YtechofppmnnomaaGreatDoor
open Go Go.RowKit Go.Mq Go.Mq.Tree Go.Mq.Sym Go.Mq.Check
set_option maxRecDepth 100000
set_option maxHeartbeats 2000000
theorem JW {w:World} {F:Nat→Prop} {seen:List UInt8→Option (List Sy)} {v:Value} (h:rJ w F seen v) (n:List UInt8) : ∃ u,(∀ w',ae [] w w'→(Instr.lookup 97 v (str n) false).run Tryz.prog w' = .ok u w') ∧
  (∀ w',ae [] w w'→(Instr.lookup 97 v (str n) true).run Tryz.prog w' = .ok (.tuple #[u,.bool (seen n).isSome]) w')∧((seen n).getD []).length≤1000∧lY w F ((seen n).getD []) u:=by
 rcases h with⟨rfl,h⟩|⟨b,es,rfl,_,hm,hs⟩
 ·refine⟨ah,fun w' _=>?_,fun w' _=>?_,by rw [h n];simp,?_⟩
  ·exact mQ Tryz.underlying97 Tryz.underlying9 (F5 w') n false
  ·rw [h n];exact mQ Tryz.underlying97 Tryz.underlying9 (F5 w') n true
  ·rw [h n];exact⟨none,0,rfl,Nat.le_refl _,Row.nil _ _ _,fun _=>rfl⟩
 ·have hn:=hs n
  have hi : (getM es n).isSome=(seen n).isSome:=by
   cases hsn : seen n with
   | none=>rw [hsn] at hn;simp only at hn;rw [hn] <;> rfl
   | some l=>rw [hsn] at hn;obtain⟨_,u,hu,_⟩:=hn;rw [hu] <;> rfl
  obtain⟨h1,h2⟩:=Y5 (b:=b) hn;refine⟨_,fun w' hc=>jm Tryz.underlying97 Tryz.underlying9 (F5 w') (hm.kept hc (by simp)) n,fun w' hc=>?_,h1,h2⟩;rw [← hi];exact jV Tryz.underlying97 Tryz.underlying9 (F5 w') (hm.kept hc (by simp)) n
theorem Y6 (c:Env) (bc be p:Nat) (m n:List UInt8) (c0 c2 c5 c6 c7 c8:Value) (F:Nat→Prop) (w:World) (hE:lZ w F c bc) (hx:ag w be #[c0,.int .i64 p,c2,str m,str n,c5,c6,c7,c8] 192) :
  Calls Tryz.prog 165 #[ptr bc,ptr be] w (Y0 w (c.find p m n)):=by
 have mO : ∀ (fn:Fn) (first cap:Array Value) (w:World),(Instr.makeFunc fn first cap).run Tryz.prog w = .ok (.func fn first cap) w:=fun _ _ _ _=>rfl
 obtain⟨w0,hw0⟩ : ∃ w0,(w.alloc (.cells #[ptr be] 166)).alloc (.cells #[str [],.int .i64 0,.int .i64 0] 185)=w0:=⟨_,rfl⟩
 have hs1 : (w.alloc (.cells #[ptr be] 166)).heap.size=w.heap.size + 1:=by simp
 have hb:ag w0 w.heap.size #[ptr be] 166:=by rw [← hw0];exact(ag.new _ _ _).kept ((ae.refl [] _).alloc _) (by simp)
 have hr:ag w0 (w.heap.size + 1) #[str [],.int .i64 0,.int .i64 0] 185:=by rw [← hw0,← hs1];exact ag.new _ _ _
 have hc0:ae [] w w0:=by rw [← hw0];exact((ae.refl _ _).alloc _).alloc _
 have hx0:=hx.kept hc0 (by simp);obtain⟨nm,vi,vv,vp,vb,vm,vl,hk,hni,hgv,hpv,hsv,hnl⟩:=(hE.kept hc0 (by simp)).at_;have HI:=hE.JR;have Y7:=hE.JS;have CZ:=hE.oF;have tH:=hE.tq;have hn1 : be≠w.heap.size:=by have:=hx.lt;omega
 have HC:=zh hc0;have HX:=zh hx0;have HB:=zh hb;have Y8:=zh hni;have F3:=zh hgv;have F4:=zh hpv;have uP:=zh hsv;have JX:=zh hnl;have HR:=zh (fun w' (hc:ae [] w0 w')=>hr.kept hc (by simp));have HM:=zh (fun w' (hc:ae [] w0 w')=>(⟨hc.aH (hb.cell 0 _ rfl) (by simp),hc.aH (hx0.cell 1 _ rfl) (by simp),hc.aH (hx0.cell 3 _ rfl) (by simp),hc.aH (hx0.cell 4 _ rfl) (by simp),hc.aH (hk.cell 1 _ rfl) (by simp),hc.aH (hk.cell 2 _ rfl) (by simp),hc.aH (hk.cell 3 _ rfl) (by simp),hc.aH (hk.cell 5 _ rfl) (by simp),hc.aH (hk.cell 6 _ rfl) (by simp)⟩ :
  w'.cell? ⟨w.heap.size,0,none⟩=some (ptr be)∧w'.cell? ⟨be,1,none⟩=some (.int .i64 p)∧w'.cell? ⟨be,3,none⟩=some (str m)∧w'.cell? ⟨be,4,none⟩=some (str n)∧w'.cell? ⟨bc,1,none⟩=some vi∧w'.cell? ⟨bc,2,none⟩=some vv∧w'.cell? ⟨bc,3,none⟩=some vp∧w'.cell? ⟨bc,5,none⟩=some vm∧w'.cell? ⟨bc,6,none⟩=some vl))
 clear hc0 hr hx0 hb hk hni hgv hpv hsv hnl hE hx hs1;have aF:=zh (ae.refl [] w0);obtain⟨b0,x1,x3,x4,k1,k2,k3,k5,k6⟩:=HM.out _ aF.out;have fO:=zh (show ∀ w',ae [] w0 w'→Calls Tryz.prog 22 #[vl,str n] w' (fun e w''=>e = .returned (.bool (decide (n∈c.locals)))∧w''=w') from fun w' hc=>F6 c.locals Y7 n F vl w' (JX.out.kept hc (by simp)));have HCM:=zh (show ∀ w',ae [] w0 w'→Calls Tryz.prog 22 #[vi,str m] w' (fun e w''=>e = .returned (.bool (decide (m∈c.imports)))∧w''=w') from fun w' hc=>F6 c.imports HI m F vi w' (Y8.out.kept hc (by simp)));have PY:=zh (show ∀ w',ae [] w0 w'→Calls Tryz.prog 56 #[vv,.func (.func 183) #[] #[ptr w.heap.size]] w' (fun e w''=>ik c.vars (fun g=>g.name == n) e∧ae [] w' w'') from fun w' hc=>PW #[ptr w.heap.size] 183 (fun _ _=>rfl) c.vars CZ _ F vv w' (F3.out.kept hc (by simp)) (fun x _ w2 h2=>YZ x n be w.heap.size c0 (.int .i64 p) c2 (str m) c5 c6 c7 c8 w2 ((hc.then h2).aH (HB.out.cell 0 _ rfl) (by simp)) (HX.out.kept (hc.then h2) (by simp))));have PZ:=zh (show ∀ w',ae [] w0 w'→Calls Tryz.prog 57 #[vp,.func (.func 184) #[] #[ptr w.heap.size]] w' (fun e w''=>ik c.procs (fun g=>g.name == n) e∧ae [] w' w'') from fun w' hc=>F7 #[ptr w.heap.size] 184 (fun _ _=>rfl) c.procs tH _ F vp w' (F4.out.kept hc (by simp)) (fun x _ pos a1 k1 a2 n2 k2 a3 n3 k3 w2 h2=>Y2 x n pos a1 k1 a2 n2 k2 a3 n3 k3 be w.heap.size c0 (.int .i64 p) c2 (str m) c5 c6 c7 c8 w2 ((hc.then h2).aH (HB.out.cell 0 _ rfl) (by simp)) (HX.out.kept (hc.then h2) (by simp))));cases m with
 | nil=>
  clear HCM
  go_enter Tryz.func165,Tryz.ntmps165
  go_wp2_with fail;obtain⟨wD,aI⟩ : ∃ x,x=w0.drew:=⟨_,rfl⟩
  have aF:=zh (aF.out.then (show ae [] w0 wD by rw [aI];exact(ae.refl [] w0).drew));clear b0 x1 x3 x4 k1 k2 k3 k5 k6;obtain⟨b0,x1,x3,x4,k1,k2,k3,k5,k6⟩:=HM.out _ aF.out;refine kT [] rfl (by kernel_rfl) ?_;rw [← aI];clear aI;have hS:ae [] wD wD:=ae.refl _ _
  repeat ((with_reducible refine gX ?_);(first|refine aM ?_|refine sK ?_|refine sM fun _ _=>?_|refine sL fun _ _=>?_|refine sE fun _ _=>?_);go_wp2_with fail)
  refine(fO.out _ aF.out).mono ?_;rintro _ _ ⟨rfl,hw⟩;have hw:=hw.symm;subst hw;go_wp2_with fail;refine And.intro hS ?_;cases hl : decide (n∈c.locals)
  case' true=>
   have ig:=zh (show c.find p [] n = .is ⟨n,0,-1⟩ by rw [Env.find,if_neg (by simp),if_pos (by simpa using hl)]);clear hl;have hr:=HR.out _ aF.out;obtain⟨e0,e1,e2⟩:=hr.three;obtain⟨r0,r1,r2,_⟩:=hr.kE;obtain⟨wF,hwF,aV,aG⟩:=CU (str n) (.int .i64 0) (.int .i64 (-1)) hr;obtain⟨f0,f1,f2⟩:=aG.three;have dM:=zh (show ae [] w wF from(HC.out.then aF.out).trans aV (fun x hx=>.inr (by simp at hx;omega)));clear hr aV aG
   repeat ((with_reducible refine gX ?_);(first|refine aM ?_|refine sK ?_|refine sM fun _ _=>?_|refine sL fun _ _=>?_|refine sE fun _ _=>?_);go_wp2_with fail)
   clear hS;go_wp2_with fail;refine bodyPost_ret (v:=.agg #[str n,.int .i64 0,.int .i64 (-1)]) (by simp [results,Tryz.results165,go_sem,f0,f1,f2]) rfl ?_;rw [ig.out];exact⟨dM.out,rfl⟩
  have hnl:=zh (show n∉c.locals by simpa using hl);clear hl
  repeat ((with_reducible refine gX ?_);(first|refine aM ?_|refine sK ?_|refine sM fun _ _=>?_|refine sL fun _ _=>?_|refine sE fun _ _=>?_);go_wp2_with fail)
  clear hS;go_wp2_with fail;refine(PY.out _ aF.out).mono ?_;rintro _ w2 ⟨hat,hc2⟩;have aF:=zh (aF.out.then (hc2));clear b0 x1 x3 x4 k1 k2 k3 k5 k6;obtain⟨b0,x1,x3,x4,k1,k2,k3,k5,k6⟩:=HM.out _ aF.out;clear hc2;rw [ik] at hat;cases hg : c.vars.find? (fun g=>g.name == n) with
  | some g=>
   rw [hg] at hat;have ig:=zh (show c.find p [] n = .is ⟨n,g.len,-1⟩ by rw [Env.find,if_neg (by simp),if_neg hnl.out,hg]);obtain⟨k,hk,rfl⟩:=hat;have hlt : k < c.vars.length:=(List.getElem?_eq_some_iff.1 hk).1;obtain⟨av,cv,hvv,_,P5⟩:=F3.out;obtain⟨bb,off,rfl,_,_,d2,_⟩:=CY P5 hk;subst hvv;have HD2:=zh d2;clear P5 hk d2 hg;go_wp2_with fail;obtain⟨wE,aI⟩ : ∃ x,x=w2.drew:=⟨_,rfl⟩
   have aF:=zh (aF.out.then (show ae [] w2 wE by rw [aI];exact(ae.refl [] w2).drew));clear b0 x1 x3 x4 k1 k2 k3 k5 k6;obtain⟨b0,x1,x3,x4,k1,k2,k3,k5,k6⟩:=HM.out _ aF.out;have d2 : wE.cell? _=_:=aF.out.aH HD2.out (by simp);have hr:=HR.out _ aF.out;obtain⟨e0,e1,e2⟩:=hr.three;obtain⟨r0,r1,r2,_⟩:=hr.kE;obtain⟨wF,hwF,aV,aG⟩:=CU (str n) (.int .i64 g.len) (.int .i64 (-1)) hr;obtain⟨f0,f1,f2⟩:=aG.three;have dM:=zh (show ae [] w wF from(HC.out.then aF.out).trans aV (fun x hx=>.inr (by simp at hx;omega)));clear hr aV aG;refine AA [] rfl (by kernel_rfl) rfl ?_;rw [← aI];clear aI;have hS:ae [] wE wE:=ae.refl _ _
   repeat ((with_reducible refine gX ?_);(first|refine aM ?_|refine sK ?_|refine sM fun _ _=>?_|refine sL fun _ _=>?_|refine sE fun _ _=>?_);go_wp2_with fail)
   refine tJ rfl rfl (fun _ _=>?_)
   change Oper.wp _ (Oper.mk ..) ..
   go_wp2_with fail;refine bodyPost_ret (v:=.agg #[str n,.int .i64 g.len,.int .i64 (-1)]) (by simp [results,Tryz.results165,go_sem,f0,f1,f2]) rfl ?_;rw [ig.out];exact⟨dM.out,rfl⟩
  | none=>
   rw [hg] at hat;subst hat;have HG:=zh hg;clear hg;go_wp2_with fail;refine(PZ.out _ aF.out).mono ?_;rintro _ w3 ⟨hat,hc2⟩;have aF:=zh (aF.out.then (hc2));clear b0 x1 x3 x4 k1 k2 k3 k5 k6;obtain⟨b0,x1,x3,x4,k1,k2,k3,k5,k6⟩:=HM.out _ aF.out;clear hc2;rw [ik] at hat;cases hp : c.procs.find? (fun x=>x.name == n) with
   | none=>
    rw [hp] at hat;subst hat;have ig:=zh (show c.find p [] n = .bad 7 p by rw [Env.find,if_neg (by simp),if_neg hnl.out,HG.out,hp]);clear hp;go_wp2_with fail;refine(yQ 7 p _).mono ?_;rintro _ w9 ⟨hc,b9,rfl,hlt,bg⟩;have hsz:=(HC.out.then aF.out).size;have HE:=zh (show ae [] w w9∧w.heap.size≤b9∧ag w9 b9 #[.int .i64 7,.int .i64 p] 142 from⟨(HC.out.then aF.out).then hc,by omega,bg⟩);clear hc bg hlt;go_wp2_with fail;rw [ig.out];exact⟨rfl,HE.out.1,b9,rfl,HE.out.2.1,HE.out.2.2⟩
   | some x=>
    rw [hp] at hat;have ig:=zh (show c.find p [] n = .is ⟨n,0,x.params.length⟩ by rw [Env.find,if_neg (by simp),if_neg hnl.out,HG.out,hp]);obtain⟨k,hk,rfl⟩:=hat;have hlt : k < c.procs.length:=(List.getElem?_eq_some_iff.1 hk).1;obtain⟨bb,off,cp,pos,a1,q1,a2,n2,q2,a3,n3,q3,hvv,_,_,_,_,d2,_,_⟩:=PU F4.out hk;subst hvv;have HD2:=zh d2;clear hk d2 hp;go_wp2_with fail;obtain⟨wE,aI⟩ : ∃ x,x=w3.drew:=⟨_,rfl⟩
    have aF:=zh (aF.out.then (show ae [] w3 wE by rw [aI];exact(ae.refl [] w3).drew));clear b0 x1 x3 x4 k1 k2 k3 k5 k6;obtain⟨b0,x1,x3,x4,k1,k2,k3,k5,k6⟩:=HM.out _ aF.out;have d2 : wE.cell? _=_:=aF.out.aH HD2.out (by simp);have hr:=HR.out _ aF.out;obtain⟨e0,e1,e2⟩:=hr.three;obtain⟨r0,r1,r2,_⟩:=hr.kE;obtain⟨wF,hwF,aV,aG⟩:=CU (str n) (.int .i64 0) (.int .i64 x.params.length) hr;obtain⟨f0,f1,f2⟩:=aG.three;have dM:=zh (show ae [] w wF from(HC.out.then aF.out).trans aV (fun x hx=>.inr (by simp at hx;omega)));clear hr aV aG;refine AA [] rfl (by kernel_rfl) rfl ?_;rw [← aI];clear aI;have hS:ae [] wE wE:=ae.refl _ _
    repeat ((with_reducible refine gX ?_);(first|refine aM ?_|refine sK ?_|refine sM fun _ _=>?_|refine sL fun _ _=>?_|refine sE fun _ _=>?_);go_wp2_with fail)
    refine tJ rfl rfl (fun _ _=>?_)
    change Oper.wp _ (Oper.mk ..) ..
    go_wp2_with fail;refine bodyPost_ret (v:=.agg #[str n,.int .i64 0,.int .i64 x.params.length]) (by simp [results,Tryz.results165,go_sem,f0,f1,f2]) rfl ?_;rw [ig.out];exact⟨dM.out,rfl⟩
 | cons ch mr=>
  have p8:=zh (show ch :: mr≠[] by simp);obtain⟨m,hm⟩ : ∃ m,m=ch :: mr:=⟨_,rfl⟩
  clear fO PY PZ;rw [← hm] at p8 HX HM HCM x3 ⊢;have hme : m.isEmpty=false:=by rw [hm];rfl
  clear hm
  go_enter Tryz.func165,Tryz.ntmps165
  go_wp2_with fail;obtain⟨wD,aI⟩ : ∃ x,x=w0.drew:=⟨_,rfl⟩
  have aF:=zh (aF.out.then (show ae [] w0 wD by rw [aI];exact(ae.refl [] w0).drew));clear b0 x1 x3 x4 k1 k2 k3 k5 k6;obtain⟨b0,x1,x3,x4,k1,k2,k3,k5,k6⟩:=HM.out _ aF.out;refine kT [] rfl (by kernel_rfl) ?_;rw [← aI];clear aI;have hS:ae [] wD wD:=ae.refl _ _
  repeat ((with_reducible refine gX ?_);(first|refine aM ?_|refine sK ?_|refine sM fun _ _=>?_|refine sL fun _ _=>?_|refine sE fun _ _=>?_);go_wp2_with fail)
  refine(HCM.out _ aF.out).mono ?_;rintro _ _ ⟨rfl,hw⟩;have hw:=hw.symm;subst hw;go_wp2_with fail;refine And.intro hS ?_;cases hi : decide (m∈c.imports)
  case' false=>
   have ig:=zh (show c.find p m n = .bad 5 p by rw [Env.find,if_pos p8.out,if_pos (by simpa using hi)]);clear hi
   repeat ((with_reducible refine gX ?_);(first|refine aM ?_|refine sK ?_|refine sM fun _ _=>?_|refine sL fun _ _=>?_|refine sE fun _ _=>?_);go_wp2_with fail)
   clear hS;go_wp2_with fail;refine(yQ 5 p _).mono ?_;rintro _ w9 ⟨hc,b9,rfl,hlt,bg⟩;have hsz:=(HC.out.then aF.out).size;have HE:=zh (show ae [] w w9∧w.heap.size≤b9∧ag w9 b9 #[.int .i64 5,.int .i64 p] 142 from⟨(HC.out.then aF.out).then hc,by omega,bg⟩);clear hc bg hlt;go_wp2_with fail;rw [ig.out];exact⟨rfl,HE.out.1,b9,rfl,HE.out.2.1,HE.out.2.2⟩
  have him:=zh (show m∈c.imports by simpa using hi);clear hi;obtain⟨u,hlk,_,dK,hsy⟩:=JW uP.out m;obtain⟨l,hl⟩ : ∃ l,l=(c.seen m).getD []:=⟨_,rfl⟩
  rw [← hl] at dK hsy;have fV:=zh hlk;have FY:=zh hsy;have HL:=zh hl;have Y9:=zh (show ∀ w',ae [] w0 w'→Calls Tryz.prog 96 #[u,str n] w' (fun e w''=>e = .returned (.int .i64 (nM l n))∧ae [] w' w'') from fun w' hc=>Pv l dK n F u w' (FY.out.kept hc (by simp)));clear hlk hsy hl
  repeat ((with_reducible refine gX ?_);(first|refine aM ?_|refine sK ?_|refine sM fun _ _=>?_|refine sL fun _ _=>?_|refine sE fun _ _=>?_);go_wp2_with fail)
  clear hS;go_wp2_with fail;obtain⟨wE,aI⟩ : ∃ x,x=wD.drew:=⟨_,rfl⟩
  have aF:=zh (aF.out.then (show ae [] wD wE by rw [aI];exact(ae.refl [] wD).drew));clear b0 x1 x3 x4 k1 k2 k3 k5 k6;obtain⟨b0,x1,x3,x4,k1,k2,k3,k5,k6⟩:=HM.out _ aF.out;have C8 : (Instr.lookup 97 vm (str m) false).run Tryz.prog wE = .ok u wE:=fV.out wE aF.out;refine kT [] rfl (by kernel_rfl) ?_;rw [← aI];clear aI;have hS:ae [] wE wE:=ae.refl _ _
  repeat ((with_reducible refine gX ?_);(first|refine aM ?_|refine sK ?_|refine sM fun _ _=>?_|refine sL fun _ _=>?_|refine sE fun _ _=>?_);go_wp2_with fail)
  refine And.intro hS ?_
  repeat ((with_reducible refine gX ?_);(first|refine aM ?_|refine sK ?_|refine sM fun _ _=>?_|refine sL fun _ _=>?_|refine sE fun _ _=>?_);go_wp2_with fail)
  refine(Y9.out _ aF.out).mono ?_;rintro _ w2 ⟨rfl,hc2⟩;have hS:ae [] wE w2:=hc2;have aF:=zh (aF.out.then (hc2));clear b0 x1 x3 x4 k1 k2 k3 k5 k6;obtain⟨b0,x1,x3,x4,k1,k2,k3,k5,k6⟩:=HM.out _ aF.out;clear hc2;go_wp2_with fail;refine And.intro hS ?_;cases hf : jr l n with
  | none=>
   rw [show nM l n = -1 by rw [nM,hf]];have ig:=zh (show c.find p m n = .bad 7 p by rw [Env.find,if_pos p8.out,if_neg (by simpa using him.out),← HL.out,hf]);clear hf
   repeat ((with_reducible refine gX ?_);(first|refine aM ?_|refine sK ?_|refine sM fun _ _=>?_|refine sL fun _ _=>?_|refine sE fun _ _=>?_);go_wp2_with fail)
   clear hS;go_wp2_with fail;refine(yQ 7 p _).mono ?_;rintro _ w9 ⟨hc,b9,rfl,hlt,bg⟩;have hsz:=(HC.out.then aF.out).size;have HE:=zh (show ae [] w w9∧w.heap.size≤b9∧ag w9 b9 #[.int .i64 7,.int .i64 p] 142 from⟨(HC.out.then aF.out).then hc,by omega,bg⟩);clear hc bg hlt;go_wp2_with fail;rw [ig.out];exact⟨rfl,HE.out.1,b9,rfl,HE.out.2.1,HE.out.2.2⟩
  | some k=>
   rw [show nM l n=k by rw [nM,hf]];have hkl:=Pt hf;obtain⟨s,hs⟩ : ∃ s,l[k]?=some s:=⟨l[k],List.getElem?_eq_getElem hkl⟩
   have ig:=zh (show c.find p m n = .is s by
    rw [Env.find,if_pos p8.out,if_neg (by simpa using him.out),← HL.out,hf];simp only [List.getD_eq_getElem?_getD,hs,Option.getD_some])
   obtain⟨ua,uc,rfl,huc,hur,_⟩:=FY.out;obtain⟨bb,off,rfl,d0,d1,d2⟩:=JP hur hs;have HD:=zh (And.intro d0 (And.intro d1 d2));clear hf hs hur d0 d1 d2 C8
   repeat ((with_reducible refine gX ?_);(first|refine aM ?_|refine sK ?_|refine sM fun _ _=>?_|refine sL fun _ _=>?_|refine sE fun _ _=>?_);go_wp2_with fail)
   clear hS;go_wp2_with fail;obtain⟨wG,aI⟩ : ∃ x,x=w2.drew:=⟨_,rfl⟩
   have aF:=zh (aF.out.then (show ae [] w2 wG by rw [aI];exact(ae.refl [] w2).drew));clear b0 x1 x3 x4 k1 k2 k3 k5 k6;obtain⟨b0,x1,x3,x4,k1,k2,k3,k5,k6⟩:=HM.out _ aF.out;have d0 : wG.cell? _=_:=aF.out.aH HD.out.1 (by simp);have d1 : wG.cell? _=_:=aF.out.aH HD.out.2.1 (by simp);have d2 : wG.cell? _=_:=aF.out.aH HD.out.2.2 (by simp);have C8 : (Instr.lookup 97 vm (str m) false).run Tryz.prog wG = .ok (.slice (some ⟨bb,off,none⟩) l.length uc) wG:=fV.out wG aF.out;have hr:=HR.out _ aF.out;obtain⟨e0,e1,e2⟩:=hr.three;obtain⟨r0,r1,r2,_⟩:=hr.kE;obtain⟨wF,hwF,aV,aG⟩:=CU (str s.name) (.int .i64 s.len) (.int .i64 s.args) hr;obtain⟨f0,f1,f2⟩:=aG.three;have dM:=zh (show ae [] w wF from(HC.out.then aF.out).trans aV (fun x hx=>.inr (by simp at hx;omega)));clear hr aV aG;refine AA [] rfl (by kernel_rfl) rfl ?_;rw [← aI];clear aI;have hS:ae [] wG wG:=ae.refl _ _
   repeat ((with_reducible refine gX ?_);(first|refine aM ?_|refine sK ?_|refine sM fun _ _=>?_|refine sL fun _ _=>?_|refine sE fun _ _=>?_);go_wp2_with fail)
   refine And.intro hS ?_
   repeat ((with_reducible refine gX ?_);(first|refine aM ?_|refine sK ?_|refine sM fun _ _=>?_|refine sL fun _ _=>?_|refine sE fun _ _=>?_);go_wp2_with fail)
   refine tJ rfl rfl (fun _ _=>?_)
   change Oper.wp _ (Oper.mk ..) ..
   go_wp2_with fail;refine bodyPost_ret (v:=.agg #[str s.name,.int .i64 s.len,.int .i64 s.args]) (by simp [results,Tryz.results165,go_sem,f0,f1,f2]) rfl ?_;rw [ig.out];exact⟨dM.out,rfl⟩
end Go.Proofs.YtechofppmnnomaaGreatDoor
namespace Go.Mq.Check
open Go Go.RowKit Go.Mq Go.Mq.Tree Go.Mq.Sym
def mU (l:List dX):dX:=l.foldr Option.or none
theorem F8 (r:dX) (l:List dX) : mU (r :: l)=r.or (mU l):=rfl
def rM (c:Env) (t p:Nat) (m n:List UInt8) (k:Nat):dX:=
 if t=2 then ic c p m n fun s=>if 0≤s.args∨0 < s.len then some (1,p) else none
 else if t=3 then ic c p m n fun s=>if 0≤s.args∨¬ 0 < s.len then some (1,p) else none
 else if t=6 then ic c p m n fun s=>if ¬ 0≤s.args then some (1,p) else if (k:Int)≠s.args then some (2,p) else none
 else none
end Go.Mq.Check
namespace Go.Proofs.YtechofppmnnomaaGreatDoor
open Go Go.RowKit Go.Mq Go.Mq.Tree Go.Mq.Sym Go.Mq.Check
set_option maxRecDepth 100000
set_option maxHeartbeats 2000000
def JY (bc:Nat) (w:World) (u:Value) (r:dX):Prop:=(u=aJ∧r=none) ∨ ∃ b,u=ptr b ∧ ∀ w',ae [] w w'→Calls Tryz.prog 138 #[ptr bc,ptr b] w' (jI [] w' r)
def Kids (bc:Nat) (w:World):List Value→List dX→Prop
 | [],rs=>rs=[]
 | u :: us,rs=>∃ r rs',rs=r :: rs'∧JY bc w u r∧Kids bc w us rs'
theorem Kids.one {bc:Nat} {w:World} : ∀ {us:List Value} {rs:List dX},Kids bc w us rs → ∀ x∈us,x.oneCell'=true
 | [],_,_=>by simp
 | u :: us,_,h=>by
  obtain⟨r,rs',rfl,hk,h⟩:=h;intro x hx;rcases List.mem_cons.1 hx with rfl|hx
  ·rcases hk with⟨rfl,_⟩|⟨b,rfl,_⟩ <;> rfl
  ·exact h.one x hx
theorem AB (t:Nat) (ht : (t=1∨t=4∨t=5)∨t=2∨t=3∨t=6) (c:Env) (F:Nat→Prop) (bc be p:Nat) (c2 c5:Value) (ou ov:Option Addr) (m n:List UInt8) (a:Option Addr) (kk:Nat) (vs:List Value) (rs:List dX) (w:World) (hx:ag w be #[.int .i64 t,.int .i64 p,c2,str m,str n,c5,.pointer ou,.pointer ov,.slice a vs.length kk] 192) (hat:At w a vs) (dK : vs.length≤1000) (hks:Kids bc w (.pointer ou :: .pointer ov :: vs) rs) (hE:lZ w F c bc) :
  Calls Tryz.prog 138 #[ptr bc,ptr be] w (jI [] w ((rM c t p m n vs.length).or (mU rs))):=by
 have ig:=zh (Y6 c bc be p m n (.int .i64 t) c2 c5 (.pointer ou) (.pointer ov) (.slice a vs.length kk) F w hE hx);clear hE;have HX:=zh hx;have HAT:=zh hat;have tK:=zh hks;have aC:=zh (ae.refl [] w);clear hx hat hks;obtain⟨tgt,fw⟩ : ∃ x,x=(rM c t p m n vs.length).or (mU rs):=⟨_,rfl⟩
 rw [← fw];have HT0:=zh fw;clear fw;rcases ht with ht|ht
 focus
  rcases ht with rfl|rfl|rfl
  all_goals
   have x0 : w.cell? ⟨be,0,none⟩=_:=HX.out.cell 0 _ rfl;have eQ:=zh (show tgt=mU rs from HT0.out)
   go_enter Tryz.func138,Tryz.ntmps138
   go_wp2_with fail;clear x0 ig;obtain⟨wD,aI⟩ : ∃ x,x=w.drew:=⟨_,rfl⟩
   have aU:ae [] w wD:=by rw [aI];exact(ae.refl [] w).drew
   have HX:=zh (HX.out.kept aU (by simp));have aC:=zh (aC.out.then aU);clear aU
 rotate_left 3
 focus
  cases hf : c.find p m n
  case' bad en q=>
   rw [hf] at ig;have eQ:=zh (show tgt=some (en,q) by rw [HT0.out];rcases ht with rfl|rfl|rfl <;> simp [rM,ic,hf]);clear hf;rcases ht with rfl|rfl|rfl
   all_goals
    have x0 : w.cell? ⟨be,0,none⟩=_:=HX.out.cell 0 _ rfl
    go_enter Tryz.func138,Tryz.ntmps138
    go_wp2_with fail;refine ig.out.mono ?_;rintro _ w9 ⟨hc,b9,rfl,bP,bg⟩;have dm:=zh hc;have dN:=zh bg;have dF:=zh bP;clear hc bg bP;go_wp2_with fail;rw [eQ.out];exact⟨rfl,dm.out,b9,rfl,dF.out,dN.out⟩
  case' is s=>
   rw [hf] at ig;have HF:=zh hf;clear hf;rcases ht with rfl|rfl|rfl <;> cases ha : decide (0≤s.args)
   all_goals
    have x0 : w.cell? ⟨be,0,none⟩=_:=HX.out.cell 0 _ rfl
    go_enter Tryz.func138,Tryz.ntmps138
    go_wp2_with fail;refine ig.out.mono ?_;rintro _ w2 ⟨hc2,rfl⟩;have aU:ae [] w w2:=hc2;have HX:=zh (HX.out.kept aU (by simp));have aC:=zh (aC.out.then aU);clear aU;clear hc2 x0;have hz:=ag.new w2 #[str [],.int .i64 0,.int .i64 0] 185;obtain⟨wA,az⟩ : ∃ w',w2.alloc (.cells #[str [],.int .i64 0,.int .i64 0] 185)=w':=⟨_,rfl⟩
    rw [az] at hz;have hcA:ae [] w2 wA:=by rw [← az];exact(ae.refl _ _).alloc _
    obtain⟨wF,hwF,aV,aG⟩:=CU (str s.name) (.int .i64 s.len) (.int .i64 s.args) hz;have yC:ae [] w2 wF:=hcA.trans aV (fun x hx=>.inr (by simp at hx;omega));obtain⟨z0,z1,z2⟩:=hz.three;obtain⟨y0,y1,y2,_⟩:=hz.kE;have aB:=zh aG;have aU:ae [] w2 wF:=yC;have HX:=zh (HX.out.kept aU (by simp));have aC:=zh (aC.out.then aU);clear aU;clear hcA aV aG hz yC;go_wp2_with fail;clear z0 z1 z2 y0 y1 y2 az hwF;obtain⟨wP,aI⟩ : ∃ x,x=wF.drew:=⟨_,rfl⟩
    have aB:=zh (show ag wP w2.heap.size #[str s.name,.int .i64 s.len,.int .i64 s.args] 185 by rw [aI];exact aB.out);have aU:ae [] wF wP:=by rw [aI];exact(ae.refl [] wF).drew
    have HX:=zh (HX.out.kept aU (by simp));have aC:=zh (aC.out.then aU);clear aU;have x0 : wP.cell? ⟨be,0,none⟩=_:=HX.out.cell 0 _ rfl;have x1 : wP.cell? ⟨be,1,none⟩=_:=HX.out.cell 1 _ rfl;have x8 : wP.cell? ⟨be,8,none⟩=_:=HX.out.cell 8 _ rfl;obtain⟨_,s1,s2⟩:=aB.out.three;refine kT [] rfl (by kernel_rfl) ?_;rw [← aI];clear aI;have hS:ae [] wP wP:=ae.refl _ _
    repeat ((with_reducible refine gX ?_);(first|refine aM ?_|refine sK ?_|refine sM fun _ _=>?_|refine sL fun _ _=>?_|refine sE fun _ _=>?_);go_wp2_with fail)
    go_wp2_with fail
   any_goals
    (with_reducible show Calls _ _ _ _ _);refine(yQ 1 p _).mono ?_
    rintro _ w9 ⟨hc,b9,rfl,bP,bg⟩;have dm:=zh (aC.out.then hc);have dN:=zh bg;have dF:=zh bP;have hsz:=aC.out.size;clear hc bg bP;go_wp2_with fail;rw [show tgt=some (1,p) by rw [HT0.out];simp only [rM,ic,HF.out,Nat.reduceEqDiff,if_true,if_false];(repeat' split);all_goals first|rfl|(exfalso;simp_all;done)|(exfalso;simp_all;omega)];exact⟨rfl,dm.out,b9,rfl,by have:=dF.out;omega,dN.out⟩
   all_goals
    clear s1 s2 hS x0 x1 x8;obtain⟨wQ,aI⟩ : ∃ x,x=wP.drew:=⟨_,rfl⟩
    have aB:=zh (show ag wQ w2.heap.size #[str s.name,.int .i64 s.len,.int .i64 s.args] 185 by rw [aI];exact aB.out);have aU:ae [] wP wQ:=by rw [aI];exact(ae.refl [] wP).drew
    have HX:=zh (HX.out.kept aU (by simp));have aC:=zh (aC.out.then aU);clear aU;have x0 : wQ.cell? ⟨be,0,none⟩=_:=HX.out.cell 0 _ rfl;have x1 : wQ.cell? ⟨be,1,none⟩=_:=HX.out.cell 1 _ rfl;have x8 : wQ.cell? ⟨be,8,none⟩=_:=HX.out.cell 8 _ rfl;obtain⟨_,s1,s2⟩:=aB.out.three;refine kT [] rfl (by kernel_rfl) ?_;rw [← aI];clear aI;have hS:ae [] wQ wQ:=ae.refl _ _
    repeat ((with_reducible refine gX ?_);(first|refine aM ?_|refine sK ?_|refine sM fun _ _=>?_|refine sL fun _ _=>?_|refine sE fun _ _=>?_);go_wp2_with fail)
    go_wp2_with fail
   any_goals
    (with_reducible show Calls _ _ _ _ _);refine(yQ 1 p _).mono ?_
    rintro _ w9 ⟨hc,b9,rfl,bP,bg⟩;have dm:=zh (aC.out.then hc);have dN:=zh bg;have dF:=zh bP;have hsz:=aC.out.size;clear hc bg bP;go_wp2_with fail;rw [show tgt=some (1,p) by rw [HT0.out];simp only [rM,ic,HF.out,Nat.reduceEqDiff,if_true,if_false];(repeat' split);all_goals first|rfl|(exfalso;simp_all;done)|(exfalso;simp_all;omega)];exact⟨rfl,dm.out,b9,rfl,by have:=dF.out;omega,dN.out⟩
   all_goals
    clear s1 s2 hS x0 x1 x8;obtain⟨wR,aI⟩ : ∃ x,x=wQ.drew:=⟨_,rfl⟩
    have aB:=zh (show ag wR w2.heap.size #[str s.name,.int .i64 s.len,.int .i64 s.args] 185 by rw [aI];exact aB.out);have aU:ae [] wQ wR:=by rw [aI];exact(ae.refl [] wQ).drew
    have HX:=zh (HX.out.kept aU (by simp));have aC:=zh (aC.out.then aU);clear aU;have x0 : wR.cell? ⟨be,0,none⟩=_:=HX.out.cell 0 _ rfl;have x1 : wR.cell? ⟨be,1,none⟩=_:=HX.out.cell 1 _ rfl;have x8 : wR.cell? ⟨be,8,none⟩=_:=HX.out.cell 8 _ rfl;obtain⟨_,s1,s2⟩:=aB.out.three;refine kT [] rfl (by kernel_rfl) ?_;rw [← aI];clear aI;have hS:ae [] wR wR:=ae.refl _ _
    repeat ((with_reducible refine gX ?_);(first|refine aM ?_|refine sK ?_|refine sM fun _ _=>?_|refine sL fun _ _=>?_|refine sE fun _ _=>?_);go_wp2_with fail)
    go_wp2_with fail
   any_goals
    (with_reducible show Calls _ _ _ _ _);refine(yQ 2 p _).mono ?_
    rintro _ w9 ⟨hc,b9,rfl,bP,bg⟩;have dm:=zh (aC.out.then hc);have dN:=zh bg;have dF:=zh bP;have hsz:=aC.out.size;clear hc bg bP;go_wp2_with fail;rw [show tgt=some (2,p) by rw [HT0.out];simp only [rM,ic,HF.out,Nat.reduceEqDiff,if_true,if_false];(repeat' split);all_goals first|rfl|(exfalso;simp_all;done)|(exfalso;simp_all;omega)];exact⟨rfl,dm.out,b9,rfl,by have:=dF.out;omega,dN.out⟩
   all_goals
    clear s1 s2 hS x0 x1 x8;have eQ:=zh (show tgt=mU rs by rw [HT0.out];simp only [rM,ic,HF.out,Nat.reduceEqDiff,if_true,if_false];(repeat' split);all_goals first|rfl|(exfalso;simp_all;done)|(exfalso;simp_all;omega));obtain⟨wD,aI⟩ : ∃ x,x=wR.drew:=⟨_,rfl⟩
    have aU:ae [] wR wD:=by rw [aI];exact(ae.refl [] wR).drew
    have HX:=zh (HX.out.kept aU (by simp));have aC:=zh (aC.out.then aU);clear aU
 all_goals
  have x6 : wD.cell? ⟨be,6,none⟩=_:=HX.out.cell 6 _ rfl;have x7 : wD.cell? ⟨be,7,none⟩=_:=HX.out.cell 7 _ rfl;have x8 : wD.cell? ⟨be,8,none⟩=_:=HX.out.cell 8 _ rfl;have hown : (wD.alloc (.cells #[.pointer ou,.pointer ov] 166)).ownsRow 0 166 1 (.slice (some ⟨wD.heap.size,0,none⟩) 2 2) 2 [.pointer ou,.pointer ov]:=⟨rfl,.inr ⟨wD.heap.size,2,#[.pointer ou,.pointer ov],rfl,Nat.zero_le _,heap_alloc_new wD _,Nat.le_refl _,by unfold maxLen;omega,rfl,rfl⟩⟩;have HOWN:=zh hown;have aO:ae [] wD (wD.alloc (.cells #[.pointer ou,.pointer ov] 166)):=(ae.refl _ _).alloc _;have JZ:=zh (show At (wD.alloc (.cells #[.pointer ou,.pointer ov] 166)) a vs from HAT.out.kept (aC.out.then aO) (fun p hp hm=>by simp at hm));have nO:=zh (show ∀ x∈vs,x.oneCell'=true from fun x hx=>tK.out.one x (by simp [hx]));obtain⟨US,hUS⟩ : ∃ U,U=[.pointer ou,.pointer ov] ++ vs:=⟨_,rfl⟩
  have Za:US.length=2 + vs.length:=by rw [hUS];simp;omega
  have tK:=zh (show Kids bc w US rs by rw [hUS];exact tK.out);have C9:=zh hUS;have hbe : be≠wD.heap.size:=by have:=HX.out.lt;omega
  have J2:=aO.aH x8 (by simp);clear hown aO hUS;refine kT [] rfl (by kernel_rfl) ?_;rw [← aI];clear aI;have hS:ae [] wD wD:=ae.refl _ _
  repeat ((with_reducible refine gX ?_);(first|refine aM ?_|refine sK ?_|refine sM fun _ _=>?_|refine sL fun _ _=>?_|refine sE fun _ _=>?_);go_wp2_with fail)
  refine And.intro (hS.alloc _) ?_;have hS1:ae [] wD (wD.alloc (.cells #[.pointer ou,.pointer ov] 166)):=hS.alloc _
  repeat ((with_reducible refine gX ?_);(first|refine aM ?_|refine sK ?_|refine sM fun _ _=>?_|refine sL fun _ _=>?_|refine sE fun _ _=>?_);go_wp2_with fail)
  refine JC _ _ 190 rfl rfl rfl 166 (.pointer none) 1 8 F9 Tryz.underlying190 rfl (by decide) (.slice (some ⟨wD.heap.size,0,none⟩) 2 2) 2 [.pointer ou,.pointer ov] rfl HOWN.out a vs.length kk vs rfl (by simp) JZ.out nO.out (by omega) (by unfold maxLen;omega) ?_;intro v2 w2 ho2 hc2 _;have hS:ae [] wD w2:=((ae.refl [] wD).alloc _).trans hc2 (fun x hx=>.inr (by simp [blk] at hx;omega));rw [← C9.out] at ho2;obtain⟨ra,rc,rfl,hrc,hrow⟩:=Row.jF ho2 (F:=fun _=>True) (fun _ _=>trivial);have iD:=zh hrow;have aC:=zh (aC.out.then hS);clear ho2 hc2 hrow x6 x7 x8 J2 hbe;refine And.intro hS ?_;clear hS1
  repeat ((with_reducible refine gX ?_);(first|refine aM ?_|refine sK ?_|refine sM fun _ _=>?_|refine sL fun _ _=>?_|refine sE fun _ _=>?_);go_wp2_with fail)
  clear hS
  go_loopw [6,85] (fun _ i wr=>∃ (k:Nat) (rO:List Value) (Gb:List dX),i = .int .i64 k∧US.drop k=rO∧k≤US.length∧Kids bc w rO Gb∧mU Gb=mU rs∧ae [] w2 wr) (fun _ i _=>US.length - (intOf i).toNat)
  case atStart=>exact⟨0,US,rs,rfl,rfl,Nat.zero_le _,tK.out,rfl,ae.refl _ _⟩
  case round=>
   obtain⟨k,rO,Gb,rfl,hdr,hkl,hks,htot,hcr⟩:=hrel;have qU:=zh hcr;by_cases hlt : k < 2 + vs.length
   ·obtain⟨x,hx⟩ : ∃ x,US[k]?=some x:=⟨US[k]'(by omega),List.getElem?_eq_getElem (by omega)⟩
    have hd2 : rO=x :: US.drop (k + 1):=by
     rw [← hdr,List.drop_eq_getElem_cons (by omega)]
     congr 1
     rw [List.getElem?_eq_getElem (by omega)] at hx;exact Option.some.inj hx
    rw [hd2] at hks;obtain⟨r,P6,rfl,j3,hks⟩:=hks;obtain⟨rb,ro,rfl,hcell⟩:=iD.out.at_ (by omega);have d0:=hcr.aH (hcell k x hx) (by simp);have tK:=zh hks;have oM:=zh htot;clear hdr hd2 hks hcell hx htot hcr;rcases j3 with⟨rfl,rfl⟩|⟨b,rfl,hcall⟩
    ·go_wp2_with fail
     exact⟨⟨k + 1,_,P6,by go_num,rfl,by omega,tK.out,oM.out,qU.out⟩,by simp [intOf];omega⟩
    ·have l5:=zh (hcall wr (aC.out.then qU.out))
     clear hcall;cases r with
     | none=>
      go_wp2_with fail;refine l5.out.mono ?_;rintro _ w4 ⟨hc4,rfl⟩;have cz:=zh (qU.out.then hc4);clear hc4;go_wp2_with fail;exact⟨⟨k + 1,_,P6,by go_num,rfl,by omega,tK.out,oM.out,cz.out⟩,by simp [intOf];omega⟩
     | some y=>
      obtain⟨en,q⟩:=y;go_wp2_with fail;refine l5.out.mono ?_;rintro _ w4 ⟨hc4,b9,rfl,bP,bg⟩;have cz:=zh ((aC.out.then qU.out).then hc4);have dN:=zh bg;have dF:=zh bP;have hsz:=(aC.out.then qU.out).size;clear hc4 bg bP;go_wp2_with fail;rw [eQ.out,← oM.out,F8];exact⟨rfl,cz.out,b9,rfl,by have:=dF.out;omega,dN.out⟩
   ·have hde : rO=[]:=by rw [← hdr];exact List.drop_eq_nil_of_le (by omega)
    rw [hde] at hks;have hrs : Gb=[]:=hks;have oM:=zh (show mU rs=none by rw [← htot,hrs];rfl);clear hdr hde hks hrs htot hcr;go_wp2_with fail;refine bodyPost_end (results_none rfl _ _ _) rfl ?_;rw [eQ.out,oM.out];exact⟨aC.out.then qU.out,rfl⟩
end Go.Proofs.YtechofppmnnomaaGreatDoor
namespace Go.Proofs.YtechofppmnnomaaGreatDoor
open Go Go.RowKit Go.Mq Go.Mq.Tree Go.Mq.Sym Go.Mq.Check
set_option maxRecDepth 100000
set_option maxHeartbeats 1000000
def rQ (c:Env) (F:Nat→Prop) (bc:Nat) (e:E):Prop:=
 (∀ (u:Value) (w:World),lZ w F c bc→aY w F e [u] → ∃ b,u=ptr b∧Calls Tryz.prog 138 #[ptr bc,ptr b] w (jI [] w (bA c e))) ∧
 ∀ (us:List Value) (w:World),lZ w F c bc→aY w F e us → ∃ rs,Kids bc w us rs∧mU rs=bA c e∧us.length=dx e
theorem rQ.kid {c:Env} {F:Nat→Prop} {bc:Nat} {e:E} (h:rQ c F bc e) {u:Value} {w:World} (hE:lZ w F c bc) (he:aY w F e [u]) : ∃ b,u=ptr b∧JY bc w (ptr b) (bA c e):=by
 obtain⟨b,hb,_⟩:=h.1 u w hE he;subst hb;refine⟨b,rfl,.inr ⟨b,rfl,fun w' hc=>?_⟩⟩;obtain⟨b',hb',hcall⟩:=h.1 (ptr b) w' (hE.kept hc (by simp)) (he.kept hc (by simp));cases hb'
 exact hcall
theorem xg (bc:Nat) (w:World):JY bc w aJ none:=.inl ⟨rfl,rfl⟩
theorem rQ.one {c:Env} {F:Nat→Prop} {bc:Nat} {e:E} (hx : e.oC) (h : ∀ (u:Value) (w:World),lZ w F c bc→aY w F e [u] → ∃ b,u=ptr b∧Calls Tryz.prog 138 #[ptr bc,ptr b] w (jI [] w (bA c e))):rQ c F bc e:=by
 refine⟨h,fun us w hE he=>?_⟩;have J3 : ∃ u,us=[u]:=by
  cases e with
  | num p n=>obtain⟨b,hb,_⟩:=he;exact⟨_,hb⟩
  | var p m n=>obtain⟨b,hb,_⟩:=he;exact⟨_,hb⟩
  | item p m n i=>obtain⟨b,_,hb,_⟩:=he;exact⟨_,hb⟩
  | un p op x=>obtain⟨b,_,hb,_⟩:=he;exact⟨_,hb⟩
  | bin p op x y=>obtain⟨b,_,_,hb,_⟩:=he;exact⟨_,hb⟩
  | app p m n l=>obtain⟨b,_,_,_,hb,_⟩:=he;exact⟨_,hb⟩
  | nil=>exact hx.elim
  | cons _ _=>exact hx.elim
 obtain⟨u,rfl⟩:=J3;refine⟨[bA c e],⟨_,_,rfl,?_,rfl⟩,by simp [mU],?_⟩
 ·obtain⟨b,hb,_⟩:=h u w hE he
  subst hb;refine .inr ⟨b,rfl,fun w' hc=>?_⟩;obtain⟨b',hb',hcall⟩:=h (ptr b) w' (hE.kept hc (by simp)) (he.kept hc (by simp));cases hb'
  exact hcall
 ·cases e <;> first|rfl|exact hx.elim
theorem Gc (c:Env) (F:Nat→Prop) (bc:Nat) (e:E):bK e→rQ c F bc e:=by
 induction e with
 | num p n=>
  refine fun _=>rQ.one trivial fun u w hE he=>?_
  obtain⟨b,hb,_,hblk⟩:=he;cases hb
  exact⟨b,rfl,AB 1 (by decide) c F bc b p (.int .i64 n) (str []) none none [] [] none 0 [] [none,none] w hblk (fun h=>by simp at h) (by simp) ⟨_,_,rfl,xg bc w,_,_,rfl,xg bc w,rfl⟩ hE⟩
 | var p m n=>
  refine fun _=>rQ.one trivial fun u w hE he=>?_
  obtain⟨b,hb,_,hblk⟩:=he;cases hb
  have:=AB 2 (by decide) c F bc b p (.int .i64 0) (str []) none none m n none 0 [] [none,none] w hblk (fun h=>by simp at h) (by simp) ⟨_,_,rfl,xg bc w,_,_,rfl,xg bc w,rfl⟩ hE;refine⟨b,rfl,?_⟩
  simpa [rM,mU,bA] using this
 | item p m n i ih=>
  refine fun hf=>rQ.one trivial fun u w hE he=>?_
  obtain⟨b,v,hb,_,hblk,hi⟩:=he;cases hb
  obtain⟨bi,rfl,j3⟩:=(ih hf).kid hE hi;have:=AB 3 (by decide) c F bc b p (.int .i64 0) (str []) (some ⟨bi,0,none⟩) none m n none 0 [] [bA c i,none] w hblk (fun h=>by simp at h) (by simp) ⟨_,_,rfl,j3,_,_,rfl,xg bc w,rfl⟩ hE;refine⟨b,rfl,?_⟩
  simpa [rM,mU,bA] using this
 | un p op x ih=>
  refine fun hf=>rQ.one trivial fun u w hE he=>?_
  obtain⟨b,v,hb,_,hblk,hi⟩:=he;cases hb
  obtain⟨bi,rfl,j3⟩:=(ih hf).kid hE hi;have:=AB 4 (by decide) c F bc b p (.int .i64 0) (str op) (some ⟨bi,0,none⟩) none [] [] none 0 [] [bA c x,none] w hblk (fun h=>by simp at h) (by simp) ⟨_,_,rfl,j3,_,_,rfl,xg bc w,rfl⟩ hE;refine⟨b,rfl,?_⟩
  simpa [rM,mU,bA] using this
 | bin p op x y ih1 ih2=>
  refine fun hf=>rQ.one trivial fun u w hE he=>?_
  obtain⟨b,v,v2,hb,_,hblk,hi,hj⟩:=he;cases hb
  obtain⟨bi,rfl,j3⟩:=(ih1 hf.1).kid hE hi;obtain⟨bj,rfl,Gd⟩:=(ih2 hf.2).kid hE hj;have:=AB 5 (by decide) c F bc b p (.int .i64 0) (str op) (some ⟨bi,0,none⟩) (some ⟨bj,0,none⟩) [] [] none 0 [] [bA c x,bA c y] w hblk (fun h=>by simp at h) (by simp) ⟨_,_,rfl,j3,_,_,rfl,Gd,rfl⟩ hE;refine⟨b,rfl,?_⟩
  simpa [rM,mU,bA] using this
 | app p m n l ih=>
  refine fun hf=>rQ.one trivial fun u w hE he=>?_
  obtain⟨b,a,k,vs,hb,_,hblk,_,hrow,hl⟩:=he;cases hb
  obtain⟨rs,hks,hor,hlen⟩:=(ih hf.2).2 vs w hE hl;have hfa:=hf.1;have:=AB 6 (by decide) c F bc b p (.int .i64 0) (str []) none none m n a k vs (none :: none :: rs) w hblk hrow.at_ (by omega) ⟨_,_,rfl,xg bc w,_,_,rfl,xg bc w,hks⟩ hE;refine⟨b,rfl,?_⟩;rw [F8,F8,Option.none_or,Option.none_or,hor,hlen] at this;exact this
 | nil=>exact fun _=>⟨fun u w _ he=>(by cases (show [u]=[] from he)),fun us w _ he=>⟨[],by rw [show us=[] from he];rfl,rfl,by rw [show us=[] from he];rfl⟩⟩
 | cons x r ih1 ih2=>
  refine fun hf=>⟨fun u w hE he=>?_,fun us w hE he=>?_⟩
  ·obtain⟨v,vs,hv,h1,h2⟩:=he
   simp only [List.cons.injEq] at hv;obtain⟨rfl,rfl⟩:=hv;obtain⟨rs,hks,hor,_⟩:=(ih2 hf.2).2 [] w hE h2;have hrs : rs=[]:=hks;subst hrs;obtain⟨b,hb,hcall⟩:=(ih1 hf.1).1 u w hE h1;refine⟨b,hb,?_⟩;rw [bA,← hor,show mU []=none from rfl,Option.or_none];exact hcall
  ·obtain⟨v,vs,rfl,h1,h2⟩:=he
   obtain⟨rs,hks,hor,hlen⟩:=(ih2 hf.2).2 vs w hE h2;obtain⟨b,rfl,j3⟩:=(ih1 hf.1).kid hE h1;exact⟨bA c x :: rs,⟨_,_,rfl,j3,hks⟩,by rw [F8,hor,bA],by simp [dx,hlen]⟩
end Go.Proofs.YtechofppmnnomaaGreatDoor
namespace Go.Mq.Check
open Go Go.RowKit Go.Mq Go.Mq.Tree Go.Mq.Sym
theorem J4 {w:World} {b:Nat} (v0 v1 v2 v3 v4 v5 v6:Value) {u0 u1 u2 u3 u4 u5 u6:Value} {t:TypeId} (h:ag w b #[u0,u1,u2,u3,u4,u5,u6] t) : ∃ wF,(((((((w.setCell ⟨b,0,none⟩ v0).setCell ⟨b,1,none⟩ v1).setCell ⟨b,2,none⟩ v2).setCell ⟨b,3,none⟩ v3).setCell ⟨b,4,none⟩ v4).setCell ⟨b,5,none⟩ v5).setCell ⟨b,6,none⟩ v6)=wF∧ae [b] w wF∧ag wF b #[v0,v1,v2,v3,v4,v5,v6] t:=
 ⟨_,rfl,((((((ae.set1 _ _ _ _).then (ae.set1 _ _ _ _)).then (ae.set1 _ _ _ _)).then (ae.set1 _ _ _ _)).then (ae.set1 _ _ _ _)).then (ae.set1 _ _ _ _)).then (ae.set1 _ _ _ _),by
  have:=((((((h.set 0 v0).set 1 v1).set 2 v2).set 3 v3).set 4 v4).set 5 v5).set 6 v6
  simpa using this⟩
theorem J5 {w:World} {F:Nat→Prop} {a:Option Addr} {cs1 cs':List Value} {c0 c1 c2 c3 c4 c5 c6:Value} {k:Nat} (h:Row w F a (cs1 ++ c0 :: c1 :: c2 :: c3 :: c4 :: c5 :: c6 :: cs')) (hl : cs1.length=k * 7) :
  ∃ bb off,a=some ⟨bb,off,none⟩∧w.cell? ⟨bb,off + k * 7,none⟩=some c0∧w.cell? ⟨bb,off + k * 7 + 1,none⟩=some c1∧w.cell? ⟨bb,off + k * 7 + 2,none⟩=some c2∧w.cell? ⟨bb,off + k * 7 + 3,none⟩=some c3∧w.cell? ⟨bb,off + k * 7 + 4,none⟩=some c4∧w.cell? ⟨bb,off + k * 7 + 5,none⟩=some c5∧w.cell? ⟨bb,off + k * 7 + 6,none⟩=some c6:=by
 obtain⟨bb,off,rfl,hc⟩:=h.at_ (by simp only [List.length_append,List.length_cons];omega);have g : ∀ i v,(c0 :: c1 :: c2 :: c3 :: c4 :: c5 :: c6 :: cs')[i]?=some v→w.cell? ⟨bb,off + k * 7 + i,none⟩=some v:=fun i v hv=>by
  rw [Nat.add_assoc];refine hc (k * 7 + i) v ?_;rw [← hl,List.getElem?_append_right (by omega),Nat.add_sub_cancel_left];exact hv
 exact⟨bb,off,rfl,by simpa using g 0 _ rfl,g 1 _ rfl,g 2 _ rfl,g 3 _ rfl,g 4 _ rfl,g 5 _ rfl,g 6 _ rfl⟩
def p9 (P:S→Prop):S→Prop
 | .nil=>True
 | .set _ _ _ _ r=>p9 P r
 | .ifs _ _ t e r=>P t∧P e∧p9 P r
 | .dE _ _ t r=>P t∧p9 P r
 | .ret _ _ r=>p9 P r
 | .dI _ _ r=>p9 P r
 | .call _ _ r=>p9 P r
theorem lZ.mono {w:World} {F G:Nat→Prop} {c:Env} {bc:Nat} (h:lZ w F c bc) (hF : ∀ x,F x→G x):lZ w G c bc:=by
 obtain⟨nm,vi,vv,vp,vb,vm,vl,h1,h2,h3,⟨a,k,cs,h4,h5,h6,h7⟩,h8,h9⟩:=h.at_;exact⟨hF _ h.own,h.JR,h.JS,h.oF,h.tq,nm,vi,vv,vp,vb,vm,vl,h1,h2.mono hF,h3.mono hF,⟨a,k,cs,h4,h5,h6.mono hF,h7⟩,h8.mono hF,h9.mono hF⟩
end Go.Mq.Check
namespace Go.Proofs.YtechofppmnnomaaGreatDoor
open Go Go.RowKit Go.Mq Go.Mq.Tree Go.Mq.Sym Go.Mq.Check
set_option maxRecDepth 100000
set_option maxHeartbeats 2000000
abbrev Does (f:Nat) (bc:Nat) (v:Value) (w:World) (r:dX):Prop:=∀ w',ae [] w w'→Calls Tryz.prog f #[ptr bc,v] w' (jI [] w' r)
theorem Da (bc p n1 k1 n2 k2:Nat) (nm:List UInt8) (uv:Value) (a1 a2:Option Addr) (w:World) (code:Nat) (hcode : code≠1) (ui:Value) (L2 L3 L4:dX) (K2:Does 138 bc uv w L2) (K3:Does 80 bc (.slice a1 n1 k1) w L3) (K4:Does 80 bc (.slice a2 n2 k2) w L4) :
  Calls Tryz.prog 114 #[ptr bc,.agg #[.int .i64 code,.int .i64 p,str nm,ui,uv,.slice a1 n1 k1,.slice a2 n2 k2]] w (jI [] w (L2.or (L3.or L4))):=by
 have hcd : ((code:Int) == 1)=false:=by simp;omega
 have Zb : decide ((code:Int)=1)=false:=by simp;omega
 obtain⟨tgt,fw⟩ : ∃ t,t=L2.or (L3.or L4):=⟨_,rfl⟩
 rw [← fw];have eQ:=zh fw;have K2:=zh K2;have K3:=zh K3;have K4:=zh K4;obtain⟨wS,gT⟩ : ∃ x,w.alloc (.cells #[.int .i64 code,.int .i64 p,str nm,ui,uv,.slice a1 n1 k1,.slice a2 n2 k2] 168)=x:=⟨_,rfl⟩
 have hsb:=ag.new w #[.int .i64 code,.int .i64 p,str nm,ui,uv,.slice a1 n1 k1,.slice a2 n2 k2] 168;have hcs:ae [] w wS:=by rw [← gT];exact(ae.refl _ _).alloc _
 rw [gT] at hsb;have aB:=zh hsb;have aC:=zh hcs;clear hsb hcs fw;have s0 : wS.cell? ⟨w.heap.size,0,none⟩=_:=aB.out.cell 0 _ rfl;have s1 : wS.cell? ⟨w.heap.size,1,none⟩=_:=aB.out.cell 1 _ rfl;have s2 : wS.cell? ⟨w.heap.size,2,none⟩=_:=aB.out.cell 2 _ rfl;have s3 : wS.cell? ⟨w.heap.size,3,none⟩=_:=aB.out.cell 3 _ rfl;have s4 : wS.cell? ⟨w.heap.size,4,none⟩=_:=aB.out.cell 4 _ rfl;have s5 : wS.cell? ⟨w.heap.size,5,none⟩=_:=aB.out.cell 5 _ rfl;have s6 : wS.cell? ⟨w.heap.size,6,none⟩=_:=aB.out.cell 6 _ rfl;clear hcode
 go_enter Tryz.func114,Tryz.ntmps114
 go_wp2_with fail;clear gT hcd Zb;have HK:=zh (K2.out wS aC.out);rcases L2 with _|⟨en,q⟩
 ·refine(HK.out).mono ?_
  rintro _ w40 ⟨hc,rfl⟩;have aU:ae [] wS w40:=hc;have aB:=zh (aB.out.kept aU (by simp));have aC:=zh (aC.out.then aU);clear aU;clear hc HK;clear s0 s1 s2 s3 s4 s5 s6;have s0 : w40.cell? ⟨w.heap.size,0,none⟩=_:=aB.out.cell 0 _ rfl;have s1 : w40.cell? ⟨w.heap.size,1,none⟩=_:=aB.out.cell 1 _ rfl;have s2 : w40.cell? ⟨w.heap.size,2,none⟩=_:=aB.out.cell 2 _ rfl;have s3 : w40.cell? ⟨w.heap.size,3,none⟩=_:=aB.out.cell 3 _ rfl;have s4 : w40.cell? ⟨w.heap.size,4,none⟩=_:=aB.out.cell 4 _ rfl;have s5 : w40.cell? ⟨w.heap.size,5,none⟩=_:=aB.out.cell 5 _ rfl;have s6 : w40.cell? ⟨w.heap.size,6,none⟩=_:=aB.out.cell 6 _ rfl;go_wp2_with fail;have HK:=zh (K3.out w40 aC.out);rcases L3 with _|⟨en,q⟩
  ·refine(HK.out).mono ?_
   rintro _ w50 ⟨hc,rfl⟩;have aU:ae [] w40 w50:=hc;have aB:=zh (aB.out.kept aU (by simp));have aC:=zh (aC.out.then aU);clear aU;clear hc HK;clear s0 s1 s2 s3 s4 s5 s6;have s0 : w50.cell? ⟨w.heap.size,0,none⟩=_:=aB.out.cell 0 _ rfl;have s1 : w50.cell? ⟨w.heap.size,1,none⟩=_:=aB.out.cell 1 _ rfl;have s2 : w50.cell? ⟨w.heap.size,2,none⟩=_:=aB.out.cell 2 _ rfl;have s3 : w50.cell? ⟨w.heap.size,3,none⟩=_:=aB.out.cell 3 _ rfl;have s4 : w50.cell? ⟨w.heap.size,4,none⟩=_:=aB.out.cell 4 _ rfl;have s5 : w50.cell? ⟨w.heap.size,5,none⟩=_:=aB.out.cell 5 _ rfl;have s6 : w50.cell? ⟨w.heap.size,6,none⟩=_:=aB.out.cell 6 _ rfl;go_wp2_with fail;have HK:=zh (K4.out w50 aC.out);rcases L4 with _|⟨en,q⟩
   ·refine(HK.out).mono ?_
    rintro _ w60 ⟨hc,rfl⟩;have aU:ae [] w50 w60:=hc;have aB:=zh (aB.out.kept aU (by simp));have aC:=zh (aC.out.then aU);clear aU;clear hc HK;clear s0 s1 s2 s3 s4 s5 s6;have s0 : w60.cell? ⟨w.heap.size,0,none⟩=_:=aB.out.cell 0 _ rfl;have s1 : w60.cell? ⟨w.heap.size,1,none⟩=_:=aB.out.cell 1 _ rfl;have s2 : w60.cell? ⟨w.heap.size,2,none⟩=_:=aB.out.cell 2 _ rfl;have s3 : w60.cell? ⟨w.heap.size,3,none⟩=_:=aB.out.cell 3 _ rfl;have s4 : w60.cell? ⟨w.heap.size,4,none⟩=_:=aB.out.cell 4 _ rfl;have s5 : w60.cell? ⟨w.heap.size,5,none⟩=_:=aB.out.cell 5 _ rfl;have s6 : w60.cell? ⟨w.heap.size,6,none⟩=_:=aB.out.cell 6 _ rfl;go_wp2_with fail;refine bodyPost_end (results_none rfl _ _ _) rfl ?_;rw [eQ.out];exact⟨aC.out,rfl⟩
   ·refine(HK.out).mono ?_
    rintro _ w9 ⟨hc,b9,rfl,bP,bg⟩;have dm:=zh (aC.out.then hc);have dN:=zh bg;have dF:=zh bP;have hsz:=aC.out.size;clear hc bg bP;go_wp2_with fail;rw [eQ.out];exact⟨rfl,dm.out,b9,rfl,by have:=dF.out;omega,dN.out⟩
  ·refine(HK.out).mono ?_
   rintro _ w9 ⟨hc,b9,rfl,bP,bg⟩;have dm:=zh (aC.out.then hc);have dN:=zh bg;have dF:=zh bP;have hsz:=aC.out.size;clear hc bg bP;go_wp2_with fail;rw [eQ.out];exact⟨rfl,dm.out,b9,rfl,by have:=dF.out;omega,dN.out⟩
 ·refine(HK.out).mono ?_
  rintro _ w9 ⟨hc,b9,rfl,bP,bg⟩;have dm:=zh (aC.out.then hc);have dN:=zh bg;have dF:=zh bP;have hsz:=aC.out.size;clear hc bg bP;go_wp2_with fail;rw [eQ.out];exact⟨rfl,dm.out,b9,rfl,by have:=dF.out;omega,dN.out⟩
theorem Zc (bc p n1 k1 n2 k2:Nat) (nm:List UInt8) (uv:Value) (a1 a2:Option Addr) (w:World) (L1 L2 L3 L4:dX) (K1 : ∀ w' b,ae [] w w'→w.heap.size≤b→ag w' b #[.int .i64 2,.int .i64 p,.int .i64 0,str [],str nm,str [],aJ,aJ,ah] 192→Calls Tryz.prog 138 #[ptr bc,ptr b] w' (jI [] w' L1)) (K2:Does 138 bc uv w L2) (K3:Does 80 bc (.slice a1 n1 k1) w L3) (K4:Does 80 bc (.slice a2 n2 k2) w L4) :
  Calls Tryz.prog 114 #[ptr bc,.agg #[.int .i64 1,.int .i64 p,str nm,aJ,uv,.slice a1 n1 k1,.slice a2 n2 k2]] w (jI [] w (L1.or (L2.or (L3.or L4)))):=by
 obtain⟨tgt,fw⟩ : ∃ t,t=L1.or (L2.or (L3.or L4)):=⟨_,rfl⟩
 rw [← fw];have eQ:=zh fw;have K2:=zh K2;have K3:=zh K3;have K4:=zh K4;obtain⟨wS,gT⟩ : ∃ x,w.alloc (.cells #[.int .i64 1,.int .i64 p,str nm,aJ,uv,.slice a1 n1 k1,.slice a2 n2 k2] 168)=x:=⟨_,rfl⟩
 have hsb:=ag.new w #[.int .i64 1,.int .i64 p,str nm,aJ,uv,.slice a1 n1 k1,.slice a2 n2 k2] 168;have hcs:ae [] w wS:=by rw [← gT];exact(ae.refl _ _).alloc _
 rw [gT] at hsb;have aB:=zh hsb;have aC:=zh hcs;clear hsb hcs fw;have s0 : wS.cell? ⟨w.heap.size,0,none⟩=_:=aB.out.cell 0 _ rfl;have s1 : wS.cell? ⟨w.heap.size,1,none⟩=_:=aB.out.cell 1 _ rfl;have s2 : wS.cell? ⟨w.heap.size,2,none⟩=_:=aB.out.cell 2 _ rfl;have s3 : wS.cell? ⟨w.heap.size,3,none⟩=_:=aB.out.cell 3 _ rfl;have s4 : wS.cell? ⟨w.heap.size,4,none⟩=_:=aB.out.cell 4 _ rfl;have s5 : wS.cell? ⟨w.heap.size,5,none⟩=_:=aB.out.cell 5 _ rfl;have s6 : wS.cell? ⟨w.heap.size,6,none⟩=_:=aB.out.cell 6 _ rfl;have K1:=zh K1;have hb:=ag.new wS #[.int .i64 2,.int .i64 p,.int .i64 0,str [],str nm,str [],aJ,aJ,ah] 192;obtain⟨wB,fA⟩ : ∃ x,wS.alloc (.cells #[.int .i64 2,.int .i64 p,.int .i64 0,str [],str nm,str [],aJ,aJ,ah] 192)=x:=⟨_,rfl⟩
 rw [fA] at hb;have hcB:ae [] wS wB:=by rw [← fA];exact(ae.refl _ _).alloc _
 have hsz:=aC.out.size;have HXB:=zh hb;have t3 : wB.cell? ⟨w.heap.size,3,none⟩=_:=hcB.aH s3 (by simp);clear hb
 go_enter Tryz.func114,Tryz.ntmps114
 go_wp2_with fail;clear gT fA t3;clear s0 s1 s2 s3 s4 s5 s6;have aU:ae [] wS wB:=hcB;have aB:=zh (aB.out.kept aU (by simp));have aC:=zh (aC.out.then aU);clear aU;have s0 : wB.cell? ⟨w.heap.size,0,none⟩=_:=aB.out.cell 0 _ rfl;have s1 : wB.cell? ⟨w.heap.size,1,none⟩=_:=aB.out.cell 1 _ rfl;have s2 : wB.cell? ⟨w.heap.size,2,none⟩=_:=aB.out.cell 2 _ rfl;have s3 : wB.cell? ⟨w.heap.size,3,none⟩=_:=aB.out.cell 3 _ rfl;have s4 : wB.cell? ⟨w.heap.size,4,none⟩=_:=aB.out.cell 4 _ rfl;have s5 : wB.cell? ⟨w.heap.size,5,none⟩=_:=aB.out.cell 5 _ rfl;have s6 : wB.cell? ⟨w.heap.size,6,none⟩=_:=aB.out.cell 6 _ rfl;have K1:=zh (show Calls Tryz.prog 138 #[ptr bc,ptr wS.heap.size] wB (jI [] wB L1) from K1.out wB _ aC.out (by omega) HXB.out);have HK:=K1;rcases L1 with _|⟨en,q⟩
 ·refine(HK.out).mono ?_
  rintro _ w30 ⟨hc,rfl⟩;have aU:ae [] wB w30:=hc;have aB:=zh (aB.out.kept aU (by simp));have aC:=zh (aC.out.then aU);clear aU;clear hc HK;clear s0 s1 s2 s3 s4 s5 s6;have s0 : w30.cell? ⟨w.heap.size,0,none⟩=_:=aB.out.cell 0 _ rfl;have s1 : w30.cell? ⟨w.heap.size,1,none⟩=_:=aB.out.cell 1 _ rfl;have s2 : w30.cell? ⟨w.heap.size,2,none⟩=_:=aB.out.cell 2 _ rfl;have s3 : w30.cell? ⟨w.heap.size,3,none⟩=_:=aB.out.cell 3 _ rfl;have s4 : w30.cell? ⟨w.heap.size,4,none⟩=_:=aB.out.cell 4 _ rfl;have s5 : w30.cell? ⟨w.heap.size,5,none⟩=_:=aB.out.cell 5 _ rfl;have s6 : w30.cell? ⟨w.heap.size,6,none⟩=_:=aB.out.cell 6 _ rfl;go_wp2_with fail;have HK:=zh (K2.out w30 aC.out);rcases L2 with _|⟨en,q⟩
  ·refine(HK.out).mono ?_
   rintro _ w40 ⟨hc,rfl⟩;have aU:ae [] w30 w40:=hc;have aB:=zh (aB.out.kept aU (by simp));have aC:=zh (aC.out.then aU);clear aU;clear hc HK;clear s0 s1 s2 s3 s4 s5 s6;have s0 : w40.cell? ⟨w.heap.size,0,none⟩=_:=aB.out.cell 0 _ rfl;have s1 : w40.cell? ⟨w.heap.size,1,none⟩=_:=aB.out.cell 1 _ rfl;have s2 : w40.cell? ⟨w.heap.size,2,none⟩=_:=aB.out.cell 2 _ rfl;have s3 : w40.cell? ⟨w.heap.size,3,none⟩=_:=aB.out.cell 3 _ rfl;have s4 : w40.cell? ⟨w.heap.size,4,none⟩=_:=aB.out.cell 4 _ rfl;have s5 : w40.cell? ⟨w.heap.size,5,none⟩=_:=aB.out.cell 5 _ rfl;have s6 : w40.cell? ⟨w.heap.size,6,none⟩=_:=aB.out.cell 6 _ rfl;go_wp2_with fail;have HK:=zh (K3.out w40 aC.out);rcases L3 with _|⟨en,q⟩
   ·refine(HK.out).mono ?_
    rintro _ w50 ⟨hc,rfl⟩;have aU:ae [] w40 w50:=hc;have aB:=zh (aB.out.kept aU (by simp));have aC:=zh (aC.out.then aU);clear aU;clear hc HK;clear s0 s1 s2 s3 s4 s5 s6;have s0 : w50.cell? ⟨w.heap.size,0,none⟩=_:=aB.out.cell 0 _ rfl;have s1 : w50.cell? ⟨w.heap.size,1,none⟩=_:=aB.out.cell 1 _ rfl;have s2 : w50.cell? ⟨w.heap.size,2,none⟩=_:=aB.out.cell 2 _ rfl;have s3 : w50.cell? ⟨w.heap.size,3,none⟩=_:=aB.out.cell 3 _ rfl;have s4 : w50.cell? ⟨w.heap.size,4,none⟩=_:=aB.out.cell 4 _ rfl;have s5 : w50.cell? ⟨w.heap.size,5,none⟩=_:=aB.out.cell 5 _ rfl;have s6 : w50.cell? ⟨w.heap.size,6,none⟩=_:=aB.out.cell 6 _ rfl;go_wp2_with fail;have HK:=zh (K4.out w50 aC.out);rcases L4 with _|⟨en,q⟩
    ·refine(HK.out).mono ?_
     rintro _ w60 ⟨hc,rfl⟩;have aU:ae [] w50 w60:=hc;have aB:=zh (aB.out.kept aU (by simp));have aC:=zh (aC.out.then aU);clear aU;clear hc HK;clear s0 s1 s2 s3 s4 s5 s6;have s0 : w60.cell? ⟨w.heap.size,0,none⟩=_:=aB.out.cell 0 _ rfl;have s1 : w60.cell? ⟨w.heap.size,1,none⟩=_:=aB.out.cell 1 _ rfl;have s2 : w60.cell? ⟨w.heap.size,2,none⟩=_:=aB.out.cell 2 _ rfl;have s3 : w60.cell? ⟨w.heap.size,3,none⟩=_:=aB.out.cell 3 _ rfl;have s4 : w60.cell? ⟨w.heap.size,4,none⟩=_:=aB.out.cell 4 _ rfl;have s5 : w60.cell? ⟨w.heap.size,5,none⟩=_:=aB.out.cell 5 _ rfl;have s6 : w60.cell? ⟨w.heap.size,6,none⟩=_:=aB.out.cell 6 _ rfl;go_wp2_with fail;refine bodyPost_end (results_none rfl _ _ _) rfl ?_;rw [eQ.out];exact⟨aC.out,rfl⟩
    ·refine(HK.out).mono ?_
     rintro _ w9 ⟨hc,b9,rfl,bP,bg⟩;have dm:=zh (aC.out.then hc);have dN:=zh bg;have dF:=zh bP;have hsz:=aC.out.size;clear hc bg bP;go_wp2_with fail;rw [eQ.out];exact⟨rfl,dm.out,b9,rfl,by have:=dF.out;omega,dN.out⟩
   ·refine(HK.out).mono ?_
    rintro _ w9 ⟨hc,b9,rfl,bP,bg⟩;have dm:=zh (aC.out.then hc);have dN:=zh bg;have dF:=zh bP;have hsz:=aC.out.size;clear hc bg bP;go_wp2_with fail;rw [eQ.out];exact⟨rfl,dm.out,b9,rfl,by have:=dF.out;omega,dN.out⟩
  ·refine(HK.out).mono ?_
   rintro _ w9 ⟨hc,b9,rfl,bP,bg⟩;have dm:=zh (aC.out.then hc);have dN:=zh bg;have dF:=zh bP;have hsz:=aC.out.size;clear hc bg bP;go_wp2_with fail;rw [eQ.out];exact⟨rfl,dm.out,b9,rfl,by have:=dF.out;omega,dN.out⟩
 ·refine(HK.out).mono ?_
  rintro _ w9 ⟨hc,b9,rfl,bP,bg⟩;have dm:=zh (aC.out.then hc);have dN:=zh bg;have dF:=zh bP;have hsz:=aC.out.size;clear hc bg bP;go_wp2_with fail;rw [eQ.out];exact⟨rfl,dm.out,b9,rfl,by have:=dF.out;omega,dN.out⟩
theorem Zd (bc p n1 k1 n2 k2:Nat) (nm:List UInt8) (uv:Value) (a1 a2:Option Addr) (w:World) (bi:Nat) (L1 L2 L3 L4:dX) (K1 : ∀ w' b,ae [] w w'→w.heap.size≤b→ag w' b #[.int .i64 3,.int .i64 p,.int .i64 0,str [],str nm,str [],(ptr bi),aJ,ah] 192→Calls Tryz.prog 138 #[ptr bc,ptr b] w' (jI [] w' L1)) (K2:Does 138 bc uv w L2) (K3:Does 80 bc (.slice a1 n1 k1) w L3) (K4:Does 80 bc (.slice a2 n2 k2) w L4) :
  Calls Tryz.prog 114 #[ptr bc,.agg #[.int .i64 1,.int .i64 p,str nm,(ptr bi),uv,.slice a1 n1 k1,.slice a2 n2 k2]] w (jI [] w (L1.or (L2.or (L3.or L4)))):=by
 obtain⟨tgt,fw⟩ : ∃ t,t=L1.or (L2.or (L3.or L4)):=⟨_,rfl⟩
 rw [← fw];have eQ:=zh fw;have K2:=zh K2;have K3:=zh K3;have K4:=zh K4;obtain⟨wS,gT⟩ : ∃ x,w.alloc (.cells #[.int .i64 1,.int .i64 p,str nm,(ptr bi),uv,.slice a1 n1 k1,.slice a2 n2 k2] 168)=x:=⟨_,rfl⟩
 have hsb:=ag.new w #[.int .i64 1,.int .i64 p,str nm,(ptr bi),uv,.slice a1 n1 k1,.slice a2 n2 k2] 168;have hcs:ae [] w wS:=by rw [← gT];exact(ae.refl _ _).alloc _
 rw [gT] at hsb;have aB:=zh hsb;have aC:=zh hcs;clear hsb hcs fw;have s0 : wS.cell? ⟨w.heap.size,0,none⟩=_:=aB.out.cell 0 _ rfl;have s1 : wS.cell? ⟨w.heap.size,1,none⟩=_:=aB.out.cell 1 _ rfl;have s2 : wS.cell? ⟨w.heap.size,2,none⟩=_:=aB.out.cell 2 _ rfl;have s3 : wS.cell? ⟨w.heap.size,3,none⟩=_:=aB.out.cell 3 _ rfl;have s4 : wS.cell? ⟨w.heap.size,4,none⟩=_:=aB.out.cell 4 _ rfl;have s5 : wS.cell? ⟨w.heap.size,5,none⟩=_:=aB.out.cell 5 _ rfl;have s6 : wS.cell? ⟨w.heap.size,6,none⟩=_:=aB.out.cell 6 _ rfl;have K1:=zh K1;have hb:=ag.new wS #[.int .i64 2,.int .i64 p,.int .i64 0,str [],str nm,str [],(ptr bi),aJ,ah] 192;obtain⟨wB,fA⟩ : ∃ x,wS.alloc (.cells #[.int .i64 2,.int .i64 p,.int .i64 0,str [],str nm,str [],(ptr bi),aJ,ah] 192)=x:=⟨_,rfl⟩
 rw [fA] at hb;have hcB:ae [] wS wB:=by rw [← fA];exact(ae.refl _ _).alloc _
 have hsz:=aC.out.size;have y0:=hb.frozen 0;have z0:=hb.cell 0 _ rfl;obtain⟨wC,yS⟩ : ∃ x,wB.setCell ⟨wS.heap.size,0,none⟩ (.int .i64 3)=x:=⟨_,rfl⟩
 have hcC:ae [wS.heap.size] wB wC:=by rw [← yS];exact ae.set1 _ _ _ _
 have hbC:ag wC wS.heap.size #[.int .i64 3,.int .i64 p,.int .i64 0,str [],str nm,str [],(ptr bi),aJ,ah] 192:=by rw [← yS];simpa using hb.set 0 (.int .i64 3)
 have bz:ae [] wS wC:=hcB.trans hcC (fun x hx=>.inr (by simp at hx;omega));have HXB:=zh hbC;have t3 : wB.cell? ⟨w.heap.size,3,none⟩=_:=hcB.aH s3 (by simp);clear hb hcB hcC hbC
 go_enter Tryz.func114,Tryz.ntmps114
 go_wp2_with fail;clear gT fA yS y0 z0 t3;clear s0 s1 s2 s3 s4 s5 s6;have aU:ae [] wS wC:=bz;have aB:=zh (aB.out.kept aU (by simp));have aC:=zh (aC.out.then aU);clear aU;have s0 : wC.cell? ⟨w.heap.size,0,none⟩=_:=aB.out.cell 0 _ rfl;have s1 : wC.cell? ⟨w.heap.size,1,none⟩=_:=aB.out.cell 1 _ rfl;have s2 : wC.cell? ⟨w.heap.size,2,none⟩=_:=aB.out.cell 2 _ rfl;have s3 : wC.cell? ⟨w.heap.size,3,none⟩=_:=aB.out.cell 3 _ rfl;have s4 : wC.cell? ⟨w.heap.size,4,none⟩=_:=aB.out.cell 4 _ rfl;have s5 : wC.cell? ⟨w.heap.size,5,none⟩=_:=aB.out.cell 5 _ rfl;have s6 : wC.cell? ⟨w.heap.size,6,none⟩=_:=aB.out.cell 6 _ rfl;have K1:=zh (show Calls Tryz.prog 138 #[ptr bc,ptr wS.heap.size] wC (jI [] wC L1) from K1.out wC _ aC.out (by omega) HXB.out);have HK:=K1;rcases L1 with _|⟨en,q⟩
 ·refine(HK.out).mono ?_
  rintro _ w30 ⟨hc,rfl⟩;have aU:ae [] wC w30:=hc;have aB:=zh (aB.out.kept aU (by simp));have aC:=zh (aC.out.then aU);clear aU;clear hc HK;clear s0 s1 s2 s3 s4 s5 s6;have s0 : w30.cell? ⟨w.heap.size,0,none⟩=_:=aB.out.cell 0 _ rfl;have s1 : w30.cell? ⟨w.heap.size,1,none⟩=_:=aB.out.cell 1 _ rfl;have s2 : w30.cell? ⟨w.heap.size,2,none⟩=_:=aB.out.cell 2 _ rfl;have s3 : w30.cell? ⟨w.heap.size,3,none⟩=_:=aB.out.cell 3 _ rfl;have s4 : w30.cell? ⟨w.heap.size,4,none⟩=_:=aB.out.cell 4 _ rfl;have s5 : w30.cell? ⟨w.heap.size,5,none⟩=_:=aB.out.cell 5 _ rfl;have s6 : w30.cell? ⟨w.heap.size,6,none⟩=_:=aB.out.cell 6 _ rfl;go_wp2_with fail;have HK:=zh (K2.out w30 aC.out);rcases L2 with _|⟨en,q⟩
  ·refine(HK.out).mono ?_
   rintro _ w40 ⟨hc,rfl⟩;have aU:ae [] w30 w40:=hc;have aB:=zh (aB.out.kept aU (by simp));have aC:=zh (aC.out.then aU);clear aU;clear hc HK;clear s0 s1 s2 s3 s4 s5 s6;have s0 : w40.cell? ⟨w.heap.size,0,none⟩=_:=aB.out.cell 0 _ rfl;have s1 : w40.cell? ⟨w.heap.size,1,none⟩=_:=aB.out.cell 1 _ rfl;have s2 : w40.cell? ⟨w.heap.size,2,none⟩=_:=aB.out.cell 2 _ rfl;have s3 : w40.cell? ⟨w.heap.size,3,none⟩=_:=aB.out.cell 3 _ rfl;have s4 : w40.cell? ⟨w.heap.size,4,none⟩=_:=aB.out.cell 4 _ rfl;have s5 : w40.cell? ⟨w.heap.size,5,none⟩=_:=aB.out.cell 5 _ rfl;have s6 : w40.cell? ⟨w.heap.size,6,none⟩=_:=aB.out.cell 6 _ rfl;go_wp2_with fail;have HK:=zh (K3.out w40 aC.out);rcases L3 with _|⟨en,q⟩
   ·refine(HK.out).mono ?_
    rintro _ w50 ⟨hc,rfl⟩;have aU:ae [] w40 w50:=hc;have aB:=zh (aB.out.kept aU (by simp));have aC:=zh (aC.out.then aU);clear aU;clear hc HK;clear s0 s1 s2 s3 s4 s5 s6;have s0 : w50.cell? ⟨w.heap.size,0,none⟩=_:=aB.out.cell 0 _ rfl;have s1 : w50.cell? ⟨w.heap.size,1,none⟩=_:=aB.out.cell 1 _ rfl;have s2 : w50.cell? ⟨w.heap.size,2,none⟩=_:=aB.out.cell 2 _ rfl;have s3 : w50.cell? ⟨w.heap.size,3,none⟩=_:=aB.out.cell 3 _ rfl;have s4 : w50.cell? ⟨w.heap.size,4,none⟩=_:=aB.out.cell 4 _ rfl;have s5 : w50.cell? ⟨w.heap.size,5,none⟩=_:=aB.out.cell 5 _ rfl;have s6 : w50.cell? ⟨w.heap.size,6,none⟩=_:=aB.out.cell 6 _ rfl;go_wp2_with fail;have HK:=zh (K4.out w50 aC.out);rcases L4 with _|⟨en,q⟩
    ·refine(HK.out).mono ?_
     rintro _ w60 ⟨hc,rfl⟩;have aU:ae [] w50 w60:=hc;have aB:=zh (aB.out.kept aU (by simp));have aC:=zh (aC.out.then aU);clear aU;clear hc HK;clear s0 s1 s2 s3 s4 s5 s6;have s0 : w60.cell? ⟨w.heap.size,0,none⟩=_:=aB.out.cell 0 _ rfl;have s1 : w60.cell? ⟨w.heap.size,1,none⟩=_:=aB.out.cell 1 _ rfl;have s2 : w60.cell? ⟨w.heap.size,2,none⟩=_:=aB.out.cell 2 _ rfl;have s3 : w60.cell? ⟨w.heap.size,3,none⟩=_:=aB.out.cell 3 _ rfl;have s4 : w60.cell? ⟨w.heap.size,4,none⟩=_:=aB.out.cell 4 _ rfl;have s5 : w60.cell? ⟨w.heap.size,5,none⟩=_:=aB.out.cell 5 _ rfl;have s6 : w60.cell? ⟨w.heap.size,6,none⟩=_:=aB.out.cell 6 _ rfl;go_wp2_with fail;refine bodyPost_end (results_none rfl _ _ _) rfl ?_;rw [eQ.out];exact⟨aC.out,rfl⟩
    ·refine(HK.out).mono ?_
     rintro _ w9 ⟨hc,b9,rfl,bP,bg⟩;have dm:=zh (aC.out.then hc);have dN:=zh bg;have dF:=zh bP;have hsz:=aC.out.size;clear hc bg bP;go_wp2_with fail;rw [eQ.out];exact⟨rfl,dm.out,b9,rfl,by have:=dF.out;omega,dN.out⟩
   ·refine(HK.out).mono ?_
    rintro _ w9 ⟨hc,b9,rfl,bP,bg⟩;have dm:=zh (aC.out.then hc);have dN:=zh bg;have dF:=zh bP;have hsz:=aC.out.size;clear hc bg bP;go_wp2_with fail;rw [eQ.out];exact⟨rfl,dm.out,b9,rfl,by have:=dF.out;omega,dN.out⟩
  ·refine(HK.out).mono ?_
   rintro _ w9 ⟨hc,b9,rfl,bP,bg⟩;have dm:=zh (aC.out.then hc);have dN:=zh bg;have dF:=zh bP;have hsz:=aC.out.size;clear hc bg bP;go_wp2_with fail;rw [eQ.out];exact⟨rfl,dm.out,b9,rfl,by have:=dF.out;omega,dN.out⟩
 ·refine(HK.out).mono ?_
  rintro _ w9 ⟨hc,b9,rfl,bP,bg⟩;have dm:=zh (aC.out.then hc);have dN:=zh bg;have dF:=zh bP;have hsz:=aC.out.size;clear hc bg bP;go_wp2_with fail;rw [eQ.out];exact⟨rfl,dm.out,b9,rfl,by have:=dF.out;omega,dN.out⟩
def tL (c:Env) (F:Nat→Prop) (bc:Nat) (s:S):Prop:=cu s→s.len≤1000 → ∀ (v:Value) (w:World),lZ w F c bc→fT w F s v→Calls Tryz.prog 80 #[ptr bc,v] w (jI [] w (Check.aQ c s))
theorem Ze (bc:Nat) (w:World):Calls Tryz.prog 80 #[ptr bc,ah] w (jI [] w none):=by
 go_enter Tryz.func80,Tryz.ntmps80
 go_wp2_with fail;refine wp_loop_rounds 1 ?_;rw [rounds_succ];go_wp2_with fail;refine bodyPost_end (results_none rfl _ _ _) rfl ?_;exact⟨ae.refl _ _,rfl⟩
theorem Zf (c:Env) (F:Nat→Prop) (bc:Nat) (s:S) (cs:List Value) (w:World) (hE:lZ w F c bc) (hs:dJ w F s cs) (hf:cu s) (ha:p9 (tL c F bc) s) : s = .nil ∨ ∃ (code p n1 k1 n2 k2:Nat) (nm:List UInt8) (oi ov:Option Addr) (a1 a2:Option Addr) (cs':List Value) (r:S) (sl:dX),
  cs = .int .i64 code :: .int .i64 p :: str nm :: .pointer oi :: .pointer ov :: .slice a1 n1 k1 :: .slice a2 n2 k2 :: cs'∧dJ w F r cs'∧Check.aQ c s=sl.or (Check.aQ c r)∧p9 (tL c F bc) r∧cu r∧s.len=r.len + 1 ∧
  ∀ w',ae [] w w'→Calls Tryz.prog 114 #[ptr bc,.agg #[.int .i64 code,.int .i64 p,str nm,.pointer oi,.pointer ov,.slice a1 n1 k1,.slice a2 n2 k2]] w' (jI [] w' sl):=by
 have ex : ∀ {x:E} {u:Value},bK x→aY w F x [u] → ∃ b,u=ptr b ∧ ∀ w',ae [] w w'→Does 138 bc (ptr b) w' (bA c x):=fun {x u} hx he=>by
  obtain⟨b,hb,_⟩:=(Gc c F bc x hx).1 u w hE he;subst hb;refine⟨b,rfl,fun w1 hc1 w2 hc2=>?_⟩;have hc:=hc1.then hc2
  obtain⟨b',hb',hcall⟩:=(Gc c F bc x hx).1 (ptr b) w2 (hE.kept hc (by simp)) (he.kept hc (by simp));cases hb'
  exact hcall
 have bo : ∀ {t:S} {a:Option Addr} {k:Nat} {ts:List Value},tL c F bc t→cu t→t.len≤1000→t.len≤k→Row w F a ts→dJ w F t ts → ∀ w',ae [] w w'→Does 80 bc (.slice a t.len k) w' (Check.aQ c t):=fun {t a k ts} hb hf hl hk hr hs w1 hc1 w2 hc2=>by
  have hc:=hc1.then hc2
  exact hb hf hl _ w2 (hE.kept hc (by simp)) ⟨a,k,ts,rfl,hk,hr.kept hc (by simp),hs.kept hc (by simp)⟩
 have bn : ∀ w',Does 80 bc (.slice none 0 0) w' none:=fun w' w2 _=>Ze bc w2
 cases s with
 | nil=>exact .inl rfl
 | set p n i v r=>
  obtain⟨ui,uv,cs',rfl,hi,hv,hr⟩:=hs;obtain⟨bv,rfl,kv⟩:=ex hf.2.1 hv;refine .inr ?_;cases i with
  | none=>
   have Zg : ui=aJ:=hi;subst Zg;refine⟨1,p,0,0,0,0,n,none,some ⟨bv,0,none⟩,none,none,cs',r,(bA c (.var p [] n)).or (bA c v),rfl,hr,by rw [Check.aQ],ha,hf.2.2,rfl,fun w' hc=>?_⟩;have:=Zc bc p 0 0 0 0 n (ptr bv) none none w' (bA c (.var p [] n)) (bA c v) none none (fun w2 b hc2 hb hx=>by
    have hs:=hc.size;obtain⟨b',hb',hcall⟩:=(Gc c (fun x=>F x∨x=b) bc (.var p [] n) trivial).1 (ptr b) w2 ((hE.kept (hc.then hc2) (by simp)).mono fun x hx=>.inl hx) ⟨b,rfl,.inr rfl,hx⟩;cases hb'
    exact hcall) (kv w' hc) (bn w') (bn w')
   simpa using this
  | some x=>
   obtain⟨bi,hbi,_⟩:=ex (hf.1 x rfl) (show aY w F x [ui] from hi);subst hbi;refine⟨1,p,0,0,0,0,n,some ⟨bi,0,none⟩,some ⟨bv,0,none⟩,none,none,cs',r,(bA c (.item p [] n x)).or (bA c v),rfl,hr,by rw [Check.aQ],ha,hf.2.2,rfl,fun w' hc=>?_⟩;have:=Zd bc p 0 0 0 0 n (ptr bv) none none w' bi (bA c (.item p [] n x)) (bA c v) none none (fun w2 b hc2 hb hx=>by
    obtain⟨b',hb',hcall⟩:=(Gc c (fun x=>F x∨x=b) bc (.item p [] n x) (hf.1 x rfl)).1 (ptr b) w2 ((hE.kept (hc.then hc2) (by simp)).mono fun x hx=>.inl hx) ⟨b,ptr bi,rfl,.inr rfl,hx,(aY.kept (hc.then hc2) (by simp) (show aY w F x [ptr bi] from hi)).mono fun x hx=>.inl hx⟩;cases hb'
    exact hcall) (kv w' hc) (bn w') (bn w')
   simpa using this
 | ifs p v t e r=>
  obtain⟨uv,a1,c1,ts,a2,c2,es,cs',rfl,hv,hc1,hr1,ht,hc2,hr2,he,hr⟩:=hs;obtain⟨bv,rfl,kv⟩:=ex hf.1 hv;refine .inr ⟨2,p,_,_,_,_,[],none,some ⟨bv,0,none⟩,a1,a2,cs',r,((bA c v).or (Check.aQ c t)).or (Check.aQ c e),rfl,hr,by rw [Check.aQ],ha.2.2,hf.2.2.2.2.2,rfl,fun w' hc=>?_⟩;rw [Option.or_assoc];exact Da bc p _ _ _ _ [] (ptr bv) a1 a2 w' 2 (by omega) aJ (bA c v) (Check.aQ c t) (Check.aQ c e) (kv w' hc) (bo ha.1 hf.2.1 hf.2.2.1 hc1 hr1 ht w' hc) (bo ha.2.1 hf.2.2.2.1 hf.2.2.2.2.1 hc2 hr2 he w' hc)
 | dE p v t r=>
  obtain⟨uv,a1,c1,ts,cs',rfl,hv,hc1,hr1,ht,hr⟩:=hs;obtain⟨bv,rfl,kv⟩:=ex hf.1 hv;refine .inr ⟨3,p,_,_,0,0,[],none,some ⟨bv,0,none⟩,a1,none,cs',r,(bA c v).or (Check.aQ c t),rfl,hr,by rw [Check.aQ],ha.2,hf.2.2.2,rfl,fun w' hc=>?_⟩;have:=Da bc p _ _ 0 0 [] (ptr bv) a1 none w' 3 (by omega) aJ (bA c v) (Check.aQ c t) none (kv w' hc) (bo ha.1 hf.2.1 hf.2.2.1 hc1 hr1 ht w' hc) (bn w')
  simpa using this
 | ret p v r=>
  obtain⟨uv,cs',rfl,hv,hr⟩:=hs;obtain⟨bv,rfl,kv⟩:=ex hf.1 hv;refine .inr ⟨4,p,0,0,0,0,[],none,some ⟨bv,0,none⟩,none,none,cs',r,bA c v,rfl,hr,by rw [Check.aQ],ha,hf.2,rfl,fun w' hc=>?_⟩;have:=Da bc p 0 0 0 0 [] (ptr bv) none none w' 4 (by omega) aJ (bA c v) none none (kv w' hc) (bn w') (bn w')
  simpa using this
 | dI p v r=>
  obtain⟨uv,cs',rfl,hv,hr⟩:=hs;obtain⟨bv,rfl,kv⟩:=ex hf.1 hv;refine .inr ⟨5,p,0,0,0,0,[],none,some ⟨bv,0,none⟩,none,none,cs',r,bA c v,rfl,hr,by rw [Check.aQ],ha,hf.2,rfl,fun w' hc=>?_⟩;have:=Da bc p 0 0 0 0 [] (ptr bv) none none w' 5 (by omega) aJ (bA c v) none none (kv w' hc) (bn w') (bn w')
  simpa using this
 | call p v r=>
  obtain⟨uv,cs',rfl,hv,hr⟩:=hs;obtain⟨bv,rfl,kv⟩:=ex hf.1 hv;refine .inr ⟨6,p,0,0,0,0,[],none,some ⟨bv,0,none⟩,none,none,cs',r,bA c v,rfl,hr,by rw [Check.aQ],ha,hf.2,rfl,fun w' hc=>?_⟩;have:=Da bc p 0 0 0 0 [] (ptr bv) none none w' 6 (by omega) aJ (bA c v) none none (kv w' hc) (bn w') (bn w')
  simpa using this
theorem yT (c:Env) (F:Nat→Prop) (bc:Nat) (s:S) (ha:p9 (tL c F bc) s):tL c F bc s:=by
 intro hf hlen v w hE hsl;obtain⟨a,k0,cs,rfl,hk0,hrow,hs⟩:=hsl;obtain⟨tgt,fw⟩ : ∃ t,t=Check.aQ c s:=⟨_,rfl⟩
 rw [← fw];have Zh:=zh hf;have HE:=zh hE;have iD:=zh hrow;have HS:=zh hs;have HA:=zh ha;have eQ:=zh fw;clear hf hE hrow hs ha fw
 go_enter Tryz.func80,Tryz.ntmps80
 go_wp2_with fail
 go_loopw [5,8] (fun _ i wr=>∃ (k:Nat) (rest:S) (cs1 cs2:List Value),i = .int .i64 k∧k + rest.len=s.len∧cs=cs1 ++ cs2∧cs1.length=k * 7∧dJ w F rest cs2∧Check.aQ c rest=tgt∧ae [] w wr∧p9 (tL c F bc) rest∧cu rest) (fun _ i _=>s.len - (intOf i).toNat)
 case atStart=>exact⟨0,s,[],cs,rfl,by simp,rfl,rfl,HS.out,eQ.out.symm,ae.refl _ _,HA.out,Zh.out⟩
 case round=>
  obtain⟨k,rest,cs1,cs2,rfl,hk,jZ,hl1,hat,htx,hc,hal,hfr⟩:=hrel;rcases Zf c F bc rest cs2 w HE.out hat hfr hal with hnil|⟨code,p,n1,k1,n2,k2,nm,oi,ov,a1,a2,cs',r,sl,hcs2,hr,hbl,har,hfr2,hle,hcall⟩
  ·subst hnil
   have hke : ¬ k < s.len:=by simp [S.len] at hk;omega
   have HT:=zh (show tgt=none by rw [← htx];rfl);have HC:=zh hc;clear hk jZ hl1 hat htx hc hal hfr;go_wp2_with fail;refine bodyPost_end (results_none rfl _ _ _) rfl ?_;rw [HT.out];exact⟨HC.out,rfl⟩
  ·have hlt : k < s.len:=by omega
   have hrw:=iD.out.kept hc (by simp);rw [jZ,hcs2] at hrw;obtain⟨bb,off,rfl,d0,d1,d2,d3,d4,d5,d6⟩:=J5 hrw hl1;have hz:=ag.new wr #[.int .i64 0,.int .i64 0,str [],aJ,aJ,ah,ah] 168;obtain⟨wA,az⟩ : ∃ wA,wr.alloc (.cells #[.int .i64 0,.int .i64 0,str [],aJ,aJ,ah,ah] 168)=wA:=⟨_,rfl⟩
   rw [az] at hz;have hcA:ae [] wr wA:=by rw [← az];exact(ae.refl _ _).alloc _
   obtain⟨wF,hwF,aV,aG⟩:=J4 (.int .i64 code) (.int .i64 p) (str nm) (.pointer oi) (.pointer ov) (.slice a1 n1 k1) (.slice a2 n2 k2) hz;have hcw:ae [] wr wF:=hcA.trans aV (fun x hx=>.inr (by simp at hx;omega));have g0:=hcA.aH d0 (by simp);have g1:=hcA.aH d1 (by simp);have g2:=hcA.aH d2 (by simp);have g3:=hcA.aH d3 (by simp);have g4:=hcA.aH d4 (by simp);have g5:=hcA.aH d5 (by simp);have g6:=hcA.aH d6 (by simp);have z0:=hz.cell 0 _ rfl;have z1:=hz.cell 1 _ rfl;have z2:=hz.cell 2 _ rfl;have z3:=hz.cell 3 _ rfl;have z4:=hz.cell 4 _ rfl;have z5:=hz.cell 5 _ rfl;have z6:=hz.cell 6 _ rfl;have y0:=hz.frozen 0;have y1:=hz.frozen 1;have y2:=hz.frozen 2;have y3:=hz.frozen 3;have y4:=hz.frozen 4;have y5:=hz.frozen 5;have y6:=hz.frozen 6;have e0:=aG.cell 0 _ rfl;have e1:=aG.cell 1 _ rfl;have e2:=aG.cell 2 _ rfl;have e3:=aG.cell 3 _ rfl;have e4:=aG.cell 4 _ rfl;have e5:=aG.cell 5 _ rfl;have e6:=aG.cell 6 _ rfl;have aC:=zh (hc.then hcw);have l5:=zh (hcall wF (hc.then hcw));have eZ:=zh (show cs=(cs1 ++ [.int .i64 code,.int .i64 p,str nm,.pointer oi,.pointer ov,.slice a1 n1 k1,.slice a2 n2 k2]) ++ cs' by rw [jZ,hcs2];simp);have HR:=zh hr;have AJ:=zh har;have cB:=zh hfr2;have Gf:=zh (show sl.or (Check.aQ c r)=tgt by rw [← hbl];exact htx);have yU:=zh hl1;have hkr : k + (r.len + 1)=s.len:=by omega
   clear hk jZ hl1 hat htx hc hal hfr hcs2 hr hbl har hfr2 hle hcall hrw hcA aV aG hcw hz;cases sl with
   | none=>
    go_wp2_with fail;refine l5.out.mono ?_;rintro _ w4 ⟨hc4,rfl⟩;have cz:=zh (aC.out.then hc4);clear hc4;go_wp2_with fail;exact⟨⟨k + 1,r,_,cs',by go_num,by omega,eZ.out,by have:=yU.out;simp;omega,HR.out,by have:=Gf.out;rwa [Option.none_or] at this,cz.out,AJ.out,cB.out⟩,by simp [intOf];omega⟩
   | some y=>
    obtain⟨en,q⟩:=y;have HT:=zh (show tgt=some (en,q) by rw [← Gf.out];rfl);go_wp2_with fail;refine l5.out.mono ?_;rintro _ w4 ⟨hc4,b9,rfl,bP,bg⟩;have cz:=zh (aC.out.then hc4);have dN:=zh bg;have dF:=zh bP;have hsz:=aC.out.size;clear hc4 bg bP;go_wp2_with fail;rw [HT.out];exact⟨rfl,cz.out,b9,rfl,by have:=dF.out;omega,dN.out⟩
theorem tN (c:Env) (F:Nat→Prop) (bc:Nat) : ∀ s,tL c F bc s∧p9 (tL c F bc) s
 | .nil=>⟨yT c F bc _ trivial,trivial⟩
 | .set _p _n _i _v r=>have h:=(tN c F bc r).2;⟨yT c F bc _ h,h⟩
 | .ifs p v t e r=>have h:p9 (tL c F bc) (.ifs p v t e r):=⟨(tN c F bc t).1,(tN c F bc e).1,(tN c F bc r).2⟩;⟨yT c F bc _ h,h⟩
 | .dE p v t r=>have h:p9 (tL c F bc) (.dE p v t r):=⟨(tN c F bc t).1,(tN c F bc r).2⟩;⟨yT c F bc _ h,h⟩
 | .ret _p _v r=>have h:=(tN c F bc r).2;⟨yT c F bc _ h,h⟩
 | .dI _p _v r=>have h:=(tN c F bc r).2;⟨yT c F bc _ h,h⟩
 | .call _p _v r=>have h:=(tN c F bc r).2;⟨yT c F bc _ h,h⟩
theorem P7 (c:Env) (F:Nat→Prop) (bc:Nat) (s:S) (hf:cu s) (hl : s.len≤1000) (v:Value) (w:World) (hE:lZ w F c bc) (hs:fT w F s v):Calls Tryz.prog 80 #[ptr bc,v] w (jI [] w (Check.aQ c s)):=
 (tN c F bc s).1 hf hl v w hE hs
end Go.Proofs.YtechofppmnnomaaGreatDoor
