/- Some texts in one. -/
import Derived.Test.YtechofppmnnomaaGreatDoorB5
namespace Go.Mq
open Go Go.RowKit
section
variable {P:Program} {ops:Array Oper} {Q:Exit→Act→World→Prop} {X:Exit→World→Prop}
structure QB (E:Oper→Bool) (ops:Array Oper) (c:Nat) (pl:List Nat):Prop where
 ok:zg ops E
 sorted : pl.Pairwise (· < ·)
 size : ∀ i∈pl,i < ops.size
 free : ∀ i∈pl,i≠c ∧ ∀ o,ops[i]?=some o → ∀ e∈o.after,Region.binds .any e=true→e.on≠c
 rest : ∀ i o,ops[i]?=some o→i∈pl∨i=c ∨ ∃ e∈o.after,Region.binds .any e=true∧e.on∉pl
def Km (E:Oper→Bool) (ops:Array Oper) (c:Nat) (pl:List Nat):Bool:=
 Dn E ops && decide (pl.Pairwise (· < ·)) && pl.all (fun i=>decide (i < ops.size) && decide (i≠c) && match ops[i]? with
  | some o=>o.after.all fun e=>!Region.binds .any e || decide (e.on≠c)
  | none=>true) && (List.range ops.size).all fun i=>pl.contains i || decide (i=c) || match ops[i]? with
  | some o=>o.after.any fun e=>Region.binds .any e && !pl.contains e.on
  | none=>true
theorem ZT {E:Oper→Bool} {c:Nat} {pl:List Nat} (h : Km E ops c pl=true):QB E ops c pl:=by
 simp only [Km,Bool.and_eq_true,decide_eq_true_eq,List.all_eq_true] at h;obtain⟨⟨⟨h1,h2⟩,h3⟩,h4⟩:=h;refine⟨Kn h1,h2,fun i hi=>(h3 i hi).1.1,fun i hi=>⟨(h3 i hi).1.2,fun o ho e he hb=>?_⟩,fun i o ho=>?_⟩
 ·have:=(h3 i hi).2
  rw [ho] at this;simp only [Array.all_eq_true_iff_forall_mem] at this;have:=this e he
  simpa [hb] using this
 ·have hi:=(Array.getElem?_eq_some_iff.1 ho).1
  have:=h4 i (List.mem_range.2 hi);rw [ho] at this;simp only [Bool.or_eq_true,decide_eq_true_eq,List.contains_iff_mem] at this;rcases this with(h|h)|h
  ·exact .inl h
  ·exact .inr (.inl h)
  ·rw [Array.any_eq_true'] at h
   obtain⟨e,he,h⟩:=h;simp at h
   exact .inr (.inr ⟨e,he,h.1,h.2⟩)
theorem ZU {E:Oper→Bool} {id:Nat} {l:List Oper} {a:Act} {w:World} {c:Nat} {oc:Oper} {pl:List Nat} (hm:P.follows .mixedOrders=true) (hback : (l.zipIdx.all fun(o,j)=>o.after.all (fun e=>!Region.binds .any e || decide (e.on < j)))=true)
  (hok:QB E l.toArray c pl) (hc : l.toArray[c]?=some oc)
  (h : gU P l.toArray (fun _=>false) false (fun w'=>w'=w.drew) (fun a1 w1=>Region.wanted oc (yielded l.toArray a1.tmps)=true∧oc.wp P a1 w1 (fun _ _=>False) (fun e _ w'=>∃ ch,e = .panic ch ∧ ∀ a',a'.defers=a.defers→Q (.panic ch) a' w')) pl a w.drew) :
  (Code.region id l.toArray true).wp P Q a w:=by
 refine Ko (fun D a' w'=>w'=w.drew∧a'.defers=a.defers∧(∀ j,D j→j∈pl) ∧ ∃ L:List Nat,L.Pairwise (· < ·)∧(∀ j,j∈L↔j∈pl∧¬ D j)∧gU P l.toArray (fun _=>false) false (fun w'=>w'=w.drew) (fun a1 w1=>Region.wanted oc (yielded l.toArray a1.tmps)=true∧oc.wp P a1 w1 (fun _ _=>False) (fun e _ w'=>∃ ch,e = .panic ch ∧ ∀ a',a'.defers=a.defers→Q (.panic ch) a' w')) L a' w')
  hm hback ⟨rfl,rfl,fun _ h=>h.elim,pl,hok.sorted,fun j=>by simp,h⟩ ?_ ?_
 ·rintro D a1 w1 hall ⟨_,_,hD,_⟩
  exact absurd rfl (hok.free c (hD c (hall c (by simpa using (Array.getElem?_eq_some_iff.1 hc).1)))).1
 ·rintro D a1 w1 i oi Dp Kq zi ⟨rfl,hdf,hD,L,hs,hL,hx⟩
  have hoi : l.toArray[i]?=some oi:=by simpa using Dp
  clear Dp;by_cases hic : i=c
  ·subst hic
   rw [hc] at hoi;cases hoi;obtain⟨h1,h2⟩:=QC (X:=fun e w'=>∃ ch,e = .panic ch ∧ ∀ a',a'.defers=a.defers→Q (.panic ch) a' w') (fun cs b=>hok.ok.zk i oc cs b hc) _ a1 (fun k hk ok hko=>by
    obtain⟨hkp,hkd⟩:=(hL k).1 hk;obtain⟨hki,hke⟩:=hok.free k hkp;rcases Nat.lt_or_ge k i with hlt|hge
    ·rcases hok.ok.pair k i ok oc hlt hko hc with⟨e,he,hb,hon⟩|hap
     ·exact absurd (hon ▸ zi e he hb) hkd
     ·exact hap.1
    ·rcases hok.ok.pair i k oc ok (by omega) hc hko with⟨e,he,hb,hon⟩|hap
     ·exact absurd hon (hke ok hko e he hb)
     ·exact hap.2) hx
   unfold wpOp
   simp only [hc];rw [if_pos h1];refine .inl (QD (X:=fun e w'=>∃ ch,e = .panic ch ∧ ∀ a',a'.defers=a.defers→Q (.panic ch) a' w') (fun e w' ⟨ch,he,hq⟩=>⟨ch,he,fun a' ha=>hq a' (ha.trans hdf)⟩) h2)
  ·have Dq : i∈pl:=by
    rcases hok.rest i oi hoi with h|h|⟨e,he,hb,hn⟩
    ·exact h
    ·exact absurd h hic
    ·exact absurd (hD _ (zi e he hb)) hn
   have him : i∈L:=(hL i).2 ⟨Dq,Kq⟩;obtain⟨l1,l2,rfl⟩:=List.append_of_mem him;obtain⟨v,hv,hx'⟩:=hoist (S:=fun w'=>w'=w.drew) (fun j o cs b=>hok.ok.zk j o cs b) hoi l2 rfl l1 a1 w.drew rfl (fun k hk ok hko=>by
    have hlt : k < i:=(List.pairwise_append.1 hs).2.2 k hk i (by simp);have hkd : ¬ D k:=((hL k).1 (by simp [hk])).2;rcases hok.ok.pair k i ok oi hlt hko hoi with⟨e,he,hb,hon⟩|hap
    ·exact absurd (hon ▸ zi e he hb) hkd
    ·exact hap) hx
   rw [List.pairwise_append,List.pairwise_cons] at hs;refine hv.wpOp hoi rfl ⟨rfl,?_,?_,l1 ++ l2,List.pairwise_append.2 ⟨hs.1,hs.2.1.2,fun x hx y hy=>hs.2.2 x hx y (by simp [hy])⟩,fun j=>?_,hx'⟩
   ·cases oi.dst <;> exact hdf
   ·rintro j (h|rfl)
    ·exact hD j h
    ·exact Dq
   ·have:=hL j
    by_cases hji : j=i
    ·subst hji
     have n1 : j∉l1:=fun h=>by have:=hs.2.2 j h j (by simp);omega
     have n2 : j∉l2:=fun h=>by have:=hs.2.1.1 j h;omega
     simp [n1,n2]
    ·simp only [List.mem_append,List.mem_cons,hji,false_or] at this
     simp only [List.mem_append,hji,or_false];exact this
theorem Gt (E:Oper→Bool) {id:Nat} {l:List Oper} {a:Act} {w:World} (c:Nat) (m:List Bool) {oc:Oper} (hm:P.follows .mixedOrders=true) (hback : (l.zipIdx.all fun(o,j)=>o.after.all (fun e=>!Region.binds .any e || decide (e.on < j)))=true)
  (hok : Km E l.toArray c (places 0 m)=true) (hc : l[c]?=some oc)
  (h : bW P l.toArray (fun _=>false) (fun w'=>w'=w.drew) (fun a1 w1=>Region.wanted oc (yielded l.toArray a1.tmps)=true∧oc.wp P a1 w1 (fun _ _=>False) (fun e _ w'=>∃ ch,e = .panic ch ∧ ∀ a',a'.defers=a.defers→Q (.panic ch) a' w')) (pick l m) a w.drew) :
  (Code.region id l.toArray true).wp P Q a w:=
 ZU hm hback (ZT hok) (by simpa using hc) (QE m l 0 (by simp) a w.drew h)
end
end Go.Mq
