/- Some texts in one. -/
import Derived.OpenShut
import Derived.Test.YtechofppmnnomaaGreatDoorB28
namespace Go.Mq.Run
open Go Go.RowKit Go.WideShapes Go.ChangeShapes Go.Mq Go.Mq.Tree
theorem afI {α β:Type} (f : α→List β) (c:Nat) (hf : ∀ x,(f x).length=c) (l:List α) (i j:Nat) (x : α) (hi : l[i]?=some x) (hj : j < c) : (l.flatMap f)[i * c + j]?=(f x)[j]?:=by
 induction l generalizing i with
 | nil=>simp at hi
 | cons y l ih=>
  cases i with
  | zero=>
   simp at hi;subst hi
   rw [List.flatMap_cons,Nat.zero_mul,Nat.zero_add,List.getElem?_append_left (by rw [hf];exact hj)]
  | succ i=>
   simp at hi
   rw [List.flatMap_cons,List.getElem?_append_right (by rw [hf,Nat.succ_mul];omega),hf];have e : (i + 1) * c + j - c=i * c + j:=by rw [Nat.succ_mul];omega
   rw [e];exact ih i hi
theorem afJ {α β:Type} (f : α→List β) (c:Nat) (hf : ∀ x,(f x).length=c) (l:List α) : (l.flatMap f).length=l.length * c:=by
 induction l with
 | nil=>simp
 | cons y l ih=>rw [List.flatMap_cons,List.length_append,hf,ih,List.length_cons,Nat.succ_mul];omega
theorem afK {α β:Type} {f : α→List β} {l:List α} (h : 0 < (l.flatMap f).length) : 0 < l.length:=by
 cases l with
 | nil=>simp at h
 | cons x l=>simp
theorem afL {α β:Type} (f : α→β) (l:List α) : l.map f=l.flatMap (fun x=>[f x]):=by induction l <;> simp_all
section
variable {H:Type} {enc:TypeId × Value→H} {P:Program} {w:World} {base:Nat} {spare:Nat→Bool} {held:Bool} {fuel:Nat} {t:TypeId} {cs:List Value} {x:DataW H × List MemPlace}
theorem afM {fs:Array Field} (ht:P.underlying t=some (.struct fs)) (h:DataW.trod enc P w base spare held fuel t cs=some x) :
  ∃ n,cs.length=P.cellsOf t ∧ ∀ (i:Nat) (f:Field),fs[i]?=some f → ∃ y,DataW.trod enc P w base spare held n f.type ((cs.drop f.offset).take (P.cellsOf f.type))=some y:=by
 obtain⟨xs,n,_,_,hl,hs,hf⟩:=DataW.trod_struct ht h;refine⟨n,hl,fun i f hi=>?_⟩;have hlt : i < xs.length:=by rw [hs];exact(Array.getElem?_eq_some_iff.1 hi).1
 exact⟨xs[i],by rw [hf i f hi];simp [hlt]⟩
theorem Nf (ht:P.underlying t=some .string) (h:DataW.trod enc P w base spare held fuel t cs=some x) : ∃ s:List UInt8,cs=[.string (bs s)]∧s.length≤9223372036854775807:=by
 obtain⟨s,rfl,_,hs⟩:=DataW.trod_string ht h;refine⟨s.data.toList,by rw [Jb],?_⟩;rw [← Lib.size_eq];simp only [maxLen] at hs;omega
theorem Vi (ht:P.underlying t=some (.int .i64)) (h:DataW.trod enc P w base spare held fuel t cs=some x) : ∃ n:Int,cs=[.int .i64 n] ∧ -9223372036854775808≤n∧n < 9223372036854775808:=by
 obtain⟨n,rfl,_,hw⟩:=DataW.trod_int ht h;have:=bounds_i64 hw;exact⟨n,rfl,this.1,by omega⟩
theorem open_list {β:Type} (cells : β→List Value) (Good : β→Prop) {e:TypeId} {k:Nat} (ht:P.underlying t=some (.slice e)) (hk:P.cellsOf e=k) (hk0 : 0 < k) (hlen : ∀ d,(cells d).length=k)
  (helem : ∀ n cs y,DataW.trod enc P w base spare held n e cs=some y → ∃ d,cs=cells d∧Good d) (h:DataW.trod enc P w base spare held fuel t cs=some x) :
  ∃ (a:Option Addr) (l:List β) (c:Nat),cs=[.slice a l.length c]∧At w a (l.flatMap cells)∧l.length≤9223372036854775807∧(∀ d∈l,Good d)∧l.length≤c:=by
 rcases DataW.trod_slice ht h with⟨rfl,_⟩|⟨a,len,cap,elems,rest,n,_,rfl,_,_,hlc,hcm,hel,hget,_⟩
 ·exact⟨none,[],0,rfl,fun h=>by simp at h,by simp,(fun _ h=>by cases h),Nat.le_refl _⟩
 ·have step : ∀ m,m≤len → ∃ l:List β,l.length=m∧(∀ i d,l[i]?=some d→w.cells? base (a.add (i * k)) k=some (cells d)) ∧ ∀ d∈l,Good d:=by
   intro m
   induction m with
   | zero=>exact fun _=>⟨[],rfl,fun _ _ h=>by simp at h,fun _ h=>by cases h⟩
   | succ m ih=>
    intro hm;obtain⟨l,hl,hc,hg⟩:=ih (by omega);have he:=hget m (by omega);have hlt : m < elems.length:=by rw [hel];omega
    rw [List.getElem?_eq_getElem hlt,Option.bind_eq_some_iff,hk] at he;obtain⟨cs',hcs,hd⟩:=he;obtain⟨d,rfl,hgd⟩:=helem n cs' _ hd;refine⟨l ++ [d],by simp [hl],fun i d' hi=>?_,fun d' hd'=>?_⟩
    ·rcases Nat.lt_or_ge i l.length with h|h
     ·rw [List.getElem?_append_left h] at hi;exact hc i d' hi
     ·rw [List.getElem?_append_right h] at hi
      have hi0 : i - l.length=0:=by
       by_cases h0 : i - l.length=0
       ·exact h0
       ·rw [List.getElem?_eq_none (by simp;omega)] at hi;cases hi
      rw [hi0] at hi;simp at hi
      subst hi;have : i=m:=by omega
      rw [this];exact hcs
    ·rcases List.mem_append.1 hd' with h|h
     ·exact hg d' h
     ·rw [List.mem_singleton] at h;subst h;exact hgd
  obtain⟨l,hl,hc,hg⟩:=step len (Nat.le_refl _);refine⟨some a,l,cap,by rw [hl],fun h0=>?_,by simp only [maxLen] at hcm;omega,hg,by omega⟩;have hl0 : 0 < l.length:=afK h0;obtain⟨b,off,spot⟩:=a;have h00:=hc 0 l[0] (by simp [hl0]);obtain⟨_,_,hcell⟩:=World.cells?_some h00;have hz:=hcell 0 hk0;have hlz:=hlen l[0];rw [List.getElem?_eq_getElem (by rw [hlz];exact hk0)] at hz;have hspot : spot=none:=by
   have h1:=World.cell?_spot hz;simp [Addr.add] at h1
   exact h1
  subst hspot;refine⟨b,off,rfl,fun i x hx=>?_⟩;have hil : i < l.length * k:=by rw [← afJ cells k hlen l];exact(List.getElem?_eq_some_iff.1 hx).1
  have hq : i / k < l.length:=Nat.div_lt_of_lt_mul (by rw [Nat.mul_comm];exact hil);have hr : i % k < k:=Nat.mod_lt _ hk0;have hi : i=i / k * k + i % k:=by rw [Nat.mul_comm];exact(Nat.div_add_mod i k).symm
  have hfg:=afI cells k hlen l (i / k) (i % k) l[i / k] (by simp [hq]) hr;rw [← hi,hx] at hfg;obtain⟨_,_,hcell⟩:=World.cells?_some (hc (i / k) l[i / k] (by simp [hq]));have h1:=hcell (i % k) hr;rw [add_plain,add_plain,Nat.add_assoc,← hi,← hfg] at h1;exact h1
theorem afN {α:Type} {l:List α} (h : l.length=5) : ∃ a b c d e,l=[a,b,c,d,e]:=by
 match l,h with
 | [a,b,c,d,e],_=>exact⟨a,b,c,d,e,rfl⟩
end
end Go.Mq.Run
namespace Go.Proofs.YtechofppmnnomaaGreatDoor
open Go Go.RowKit Go.Mq Go.Mq.Tree Go.Mq.Sym Go.Mq.Run Go.ChangeShapes Go.WideShapes
set_option maxRecDepth 100000
section
variable {H:Type} {enc:TypeId × Value→H} {w:World} {base:Nat} {spare:Nat→Bool} {held:Bool} {fuel:Nat} {cs:List Value} {x:DataW H × List MemPlace}
theorem Vj:Tryz.prog.cellsOf 9=1∧Tryz.prog.cellsOf 3=1∧Tryz.prog.cellsOf 2=1∧Tryz.prog.cellsOf 41=1∧Tryz.prog.cellsOf 57=5:=by
 refine⟨?_,?_,?_,?_,?_⟩ <;> kernel_rfl
structure Ng (w:World) (x:Ac):Prop where
 text : x.text.length≤9223372036854775807
 name : x.name.length≤9223372036854775807
 proc : x.proc.length≤9223372036854775807
 args : x.args.length≤9223372036854775807
 cap : x.args.length≤x.cap
 row:At w x.ad (ints x.args)
theorem afO (h:DataW.trod enc Tryz.prog w base spare held fuel 57 cs=some x) : ∃ s:Ac,cs=s.cells∧Ng w s:=by
 obtain⟨c1,c2,c3,c4,c5⟩:=Vj;obtain⟨n,hl,hf⟩:=afM Tryz.underlying57 h;rw [c5] at hl;obtain⟨a,b,c,d,e,rfl⟩:=afN hl;obtain⟨y0,h0⟩:=hf 0 _ rfl;obtain⟨y1,h1⟩:=hf 1 _ rfl;obtain⟨y2,h2⟩:=hf 2 _ rfl;obtain⟨y3,h3⟩:=hf 3 _ rfl;obtain⟨y4,h4⟩:=hf 4 _ rfl;simp [c1,c2,c3,c4] at h0 h1 h2 h3 h4
 obtain⟨p,e0,z0⟩:=Vi Tryz.underlying3 h0;obtain rfl:=List.cons.inj e0 |>.1;obtain⟨t,e1,z1⟩:=Nf Tryz.underlying9 h1;obtain rfl:=List.cons.inj e1 |>.1;obtain⟨nm,e2,z2⟩:=Nf Tryz.underlying9 h2;obtain rfl:=List.cons.inj e2 |>.1;obtain⟨pr,e3,z3⟩:=Nf Tryz.underlying9 h3;obtain rfl:=List.cons.inj e3 |>.1;obtain⟨ad,ns,cp,e4,t4,z4,g4,k4⟩:=open_list (fun x:Int=>[num x]) (fun _=>True) Tryz.underlying41 c3 (by omega) (fun _=>rfl) (fun n cs y h=>by
  obtain⟨n,h1,_⟩:=Vi Tryz.underlying2 h;exact⟨n,h1,trivial⟩) h4
 obtain rfl:=List.cons.inj e4 |>.1;rw [← afL] at t4;exact⟨⟨p,t,nm,pr,ns,ad,cp⟩,rfl,⟨z1,z2,z3,z4,k4,t4⟩⟩
theorem afP {r:Reach} {b0:Nat} {v:Value} {d:DataW H} {ps:List MemPlace} (hval:Value.okWide Tryz.prog w r b0 53 v) (hd:DataW.Trod enc Tryz.prog w 0 spare held 53 v d ps) :
  ∃ (a:Option Addr) (l:List Ac) (c:Nat),v = .slice a l.length c∧Eu w (fun y=>y < w.heap.size) l a∧l.length≤9223372036854775807 ∧ ∀ x∈l,Ng w x:=by
 obtain⟨a0,n0,c0,rfl⟩:=okWide_slice Tryz.underlying53 hval;obtain⟨fuel,hf⟩:=hd;obtain⟨a,l,c,he,hat,hl,hg,_⟩:=open_list Ac.cells (Ng w) Tryz.underlying53 Vj.2.2.2.2 (by omega) (fun _=>rfl) (fun n cs y h=>afO h) hf;simp [Value.cells] at he
 obtain⟨rfl,rfl,rfl⟩:=he;refine⟨a0,l,c0,rfl,⟨⟨hat,fun h0 p hp=>?_⟩,fun x hx=>⟨(hg x hx).cap,(hg x hx).row,fun h0 p hp=>?_⟩⟩,hl,hg⟩
 ·obtain⟨b,off,he,hc⟩:=hat h0
  rw [hp] at he;cases he
  exact lt_of_cell (hc 0 _ (List.getElem?_eq_getElem h0))
 ·obtain⟨b,off,he,hc⟩:=(hg x hx).row h0
  rw [hp] at he;cases he
  exact lt_of_cell (hc 0 _ (List.getElem?_eq_getElem h0))
end
end Go.Proofs.YtechofppmnnomaaGreatDoor
