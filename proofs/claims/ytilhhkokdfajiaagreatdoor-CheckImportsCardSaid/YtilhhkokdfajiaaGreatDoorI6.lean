/- Some texts in one. -/
import Derived.OrdersHeld
import Derived.Test.YtilhhkokdfajiaaGreatDoorI0
namespace Go.Mq
open Go Go.RowKit
def NoExit:Exit→Act→World→Prop:=fun _ _ _=>False
section
variable {P:Program} {ops:Array Oper} {S:World→Prop} {R:Act→World→Prop} {E:Oper→Bool} {T:Bool}
def wpXi (P:Program) (ops:Array Oper) (E:Oper→Bool) (T:Bool) (S:World→Prop) (R:Act→World→Prop):List Nat→Act→World→Prop
 | [],a,w=>R a w
 | i :: rest,a,w=>match ops[i]? with
  | none=>wpXi P ops E T S R rest a w
  | some o=>(∃ v,YieldsIf P ops S o v a∧wpXi P ops E T S R rest (a.put o.dst v) w) ∨
   (E o=true∧Region.wanted o (yielded ops a.tmps)=true∧o.wp P a w (fun a' w'=>((T=true→rest≠[])→S w')∧wpXi P ops E T S R rest a' w') NoExit)
theorem wp_moved {o:Oper} {a a2:Act} {w:World} {K K2:Act→World→Prop} (hx : execOp a2.eval o=execOp a.eval o) (_hd : a2.defers=a.defers)
  (hput : ∀ u w',K (a.put o.dst u) w'→K2 (a2.put o.dst u) w')
  (hdf : ∀ d w',K ({ a with defers:=d :: a.defers }.put o.dst undef) w'→K2 ({ a2 with defers:=d :: a2.defers }.put o.dst undef) w')
  (h : o.wp P a w K NoExit) : o.wp P a2 w K2 NoExit:=by
 unfold Oper.wp at *
 rw [hx]
 generalize (execOp a.eval o).run P w=r at *
 cases r with
 | ok n w'=>
  cases n <;> simp only [Oper.upon] at h ⊢
  case value u=>exact hput _ _ h
  case skip=>exact hput _ _ h
  case defer d=>exact hdf _ _ h
  case enter f args=>
   refine Calls.mono h fun e w'' he=>?_
   cases e with
   | returned u=>exact hput _ _ he
   | panicked c=>exact he
   | outgrown=>exact he
  case row row args=>exact Rows.mono h fun u w'' he=>hput _ _ he
 | halt x w'=>
  cases x <;> simp only [Oper.upon] at h ⊢
  case panic u=>exact h
theorem wp_exits {o:Oper} {a:Act} {w:World} {K:Act→World→Prop} {Q:Exit→Act→World→Prop} (h : o.wp P a w K NoExit) : o.wp P a w K Q:=by
 unfold Oper.wp at *
 generalize (execOp a.eval o).run P w=r at *
 cases r with
 | ok n w'=>
  cases n <;> simp only [Oper.upon] at h ⊢ <;> first
   | exact h
   | (
     refine Calls.mono h fun e w'' he=>?_
     cases e with
     | returned u=>exact he
     | panicked c=>exact he.elim
     | outgrown=>obtain ⟨_,_,h⟩:=he; exact h.elim)
 | halt x w'=>
  cases x <;> simp only [Oper.upon] at h ⊢
  case panic u=>exact h.elim
theorem wp_some {o:Oper} {a:Act} {w:World} {K:Act→World→Prop} (h : o.wp P a w K NoExit) :
  ∃ u w',K (a.put o.dst u) w' ∨ ∃ d,K ({ a with defers:=d :: a.defers }.put o.dst undef) w':=by
 unfold Oper.wp at *
 generalize (execOp a.eval o).run P w=r at *
 cases r with
 | ok n w'=>
  cases n <;> simp only [Oper.upon] at h
  case value u=>exact ⟨u,w',.inl h⟩
  case skip=>exact ⟨undef,w',.inl h⟩
  case defer d=>exact ⟨undef,w',.inr ⟨d,h⟩⟩
  case enter f args=>
   obtain ⟨e,w'',fr,hR,_⟩:=h []
   cases e with
   | returned u=>exact ⟨u,w'',.inl hR⟩
   | panicked c=>exact hR.elim
   | outgrown=>obtain ⟨_,_,h⟩:=hR; exact h.elim
  case row row args=>
   obtain ⟨v,w'',hR,_⟩:=h default []
   exact ⟨v,w'',.inl hR⟩
 | halt x w'=>
  cases x <;> simp only [Oper.upon] at h
  case panic u=>exact h.elim
theorem YieldsIf.uniq {o:Oper} {a:Act} {v u:Value} {w:World} (hS:S w) (h:YieldsIf P ops S o v a) (k:YieldsIf P ops S o u a) : v=u:=by
 rcases h with ⟨h1,h2⟩ | ⟨h1,rfl⟩ <;> rcases k with ⟨k1,k2⟩ | ⟨k1,rfl⟩
 ·have:=(h2 w hS).symm.trans (k2 w hS)
  cases this; rfl
 ·rw [h1] at k1; cases k1
 ·rw [h1] at k1; cases k1
 ·rfl
def ClosedX (ops:Array Oper) (L:Nat→Prop):Prop:=∀ j y,ops[j]?=some y→L j → ∀ e∈y.after,Region.binds .any e=true→L e.on
structure OkX (ops:Array Oper) (E:Oper→Bool):Prop where
 sel : ∀ (j:Nat) (o:Oper) cs b,ops[j]?=some o→o.op ≠ .select cs b
 back : ∀ (j:Nat) (o:Oper),ops[j]?=some o → ∀ e∈o.after,Region.binds .any e=true→e.on < j
 pair : ∀ (i j:Nat) (x y:Oper),i < j→ops[i]?=some x→ops[j]?=some y→(∃ e∈y.after,Region.binds .any e=true∧e.on=i)∨(x.apart ops y=true∧y.apart ops x=true)
 chain : ∀ (i j:Nat) (x y:Oper),i < j→ops[i]?=some x→ops[j]?=some y→E x=true→E y=true→(∀ k z,i < k→k < j→ops[k]?=some z→E z=false) → ∀ L:Nat→Prop,ClosedX ops L→L j→L i
theorem yields_put {x y:Oper} {v u:Value} {a:Act} (hsel : ∀ cs b,y.op ≠ .select cs b) (hap : x.apart ops y=true):YieldsIf P ops S y v (a.put x.dst u)↔YieldsIf P ops S y v a:=by
 obtain ⟨h1,_,_⟩:=Oper.apart_spec hap
 constructor
 ·exact fun h=>h.of_same (execOp_put y hsel a x.dst u h1).symm (wanted_put y a x.dst u h1).symm
 ·exact fun h=>h.of_same (execOp_put y hsel a x.dst u h1) (wanted_put y a x.dst u h1)
theorem put_swap {x y:Oper} {a:Act} {v u:Value} (hap : x.apart ops y=true) : (a.put x.dst v).put y.dst u=(a.put y.dst u).put x.dst v:=
 Act.put_comm a v u (Oper.apart_spec hap).2.1
theorem hoist (hsel : ∀ (j:Nat) (o:Oper) cs b,ops[j]?=some o→o.op ≠ .select cs b) {j:Nat} {oj:Oper} (hj : ops[j]?=some oj) (l2:List Nat) (hE:E oj=false) :
  ∀ (l1:List Nat) (a:Act) (w:World),S w→(∀ i∈l1,∀ oi,ops[i]?=some oi→oi.apart ops oj=true∧oj.apart ops oi=true)→wpXi P ops E T S R (l1 ++ j :: l2) a w →
   ∃ v,YieldsIf P ops S oj v a∧wpXi P ops E T S R (l1 ++ l2) (a.put oj.dst v) w:=by
 intro l1
 induction l1 with
 | nil=>
  intro a w hS _ h
  simp only [List.nil_append,wpXi,hj] at h
  rcases h with h | ⟨h,_⟩
  ·exact h
  ·rw [hE] at h; cases h
 | cons i l1 ih=>
  intro a w hS hap h
  have hap' : ∀ i∈l1,∀ oi,ops[i]?=some oi→oi.apart ops oj=true∧oj.apart ops oi=true:=fun k hk=>hap k (List.mem_cons_of_mem _ hk)
  simp only [List.cons_append,wpXi] at h ⊢
  cases hi : ops[i]? with
  | none=>
   simp only [hi] at h
   exact ih a w hS hap' h
  | some oi=>
   simp only [hi] at h
   obtain ⟨ap1,ap2⟩:=hap i (List.mem_cons_self ..) oi hi
   have se:=fun cs b=>hsel j oj cs b hj
   have sei:=fun cs b=>hsel i oi cs b hi
   rcases h with ⟨vi,hy,h⟩ | ⟨he,hw,h⟩
   ·obtain ⟨v,hv,h'⟩:=ih _ w hS hap' h
    have hv':=(yields_put se ap1).1 hv
    refine ⟨v,hv',.inl ⟨vi,(yields_put sei ap2).2 hy,?_⟩⟩
    rw [put_swap ap2]
    exact h'
   ·
    have hv : ∃ v,YieldsIf P ops S oj v a:=by
     obtain ⟨u,w',h' | ⟨d,h'⟩⟩:=wp_some h
     ·obtain ⟨v,hv,_⟩:=ih _ w' (h'.1 (fun _=>by simp)) hap' h'.2
      exact ⟨v,(yields_put se ap1).1 hv⟩
     ·obtain ⟨v,hv,_⟩:=ih _ w' (h'.1 (fun _=>by simp)) hap' h'.2
      have:=(yields_put se ap1).1 hv
      exact ⟨v,this.of_same rfl rfl⟩
    obtain ⟨v,hv⟩:=hv
    refine ⟨v,hv,.inr ⟨he,?_,?_⟩⟩
    ·rw [wanted_put oi a oj.dst v (Oper.apart_spec ap2).1]; exact hw
    ·refine wp_moved (a:=a) (execOp_put oi sei a oj.dst v (Oper.apart_spec ap2).1) (by cases oj.dst <;> rfl) ?_ ?_ h
     ·rintro u w' ⟨hS',h'⟩
      have hS':=hS' (fun _=>by simp)
      obtain ⟨v',hv',h''⟩:=ih _ w' hS' hap' h'
      have e:=YieldsIf.uniq hS' hv' ((yields_put se ap1).2 hv)
      subst e
      rw [put_swap ap2]
      exact ⟨fun _=>hS',h''⟩
     ·rintro d w' ⟨hS',h'⟩
      have hS':=hS' (fun _=>by simp)
      obtain ⟨v',hv',h''⟩:=ih _ w' hS' hap' h'
      have hvd:YieldsIf P ops S oj v { a with defers:=d :: a.defers }:=hv.of_same rfl rfl
      have e:=YieldsIf.uniq hS' hv' ((yields_put se ap1).2 hvd)
      subst e
      rw [Act.put_defers,put_swap ap2]
      exact ⟨fun _=>hS',h''⟩
theorem sink (hsel : ∀ (j:Nat) (o:Oper) cs b,ops[j]?=some o→o.op ≠ .select cs b) {j:Nat} {oj:Oper} (hj : ops[j]?=some oj) (l2:List Nat) :
  ∀ (l1:List Nat) (a:Act) (w:World),S w→(T=true→l1≠[]→l2≠[])→(∀ i∈l1,∀ oi,ops[i]?=some oi→E oi=false∧oi.apart ops oj=true∧oj.apart ops oi=true)→wpXi P ops E T S R (l1 ++ j :: l2) a w →
   (∃ v,YieldsIf P ops S oj v a∧wpXi P ops E T S R (l1 ++ l2) (a.put oj.dst v) w) ∨
   (Region.wanted oj (yielded ops a.tmps)=true∧oj.wp P a w (fun a' w'=>((T=true→l1 ++ l2≠[])→S w')∧wpXi P ops E T S R (l1 ++ l2) a' w') NoExit):=by
 intro l1
 induction l1 with
 | nil=>
  intro a w hS _ _ h
  simp only [List.nil_append,wpXi,hj] at h
  rcases h with h | ⟨_,h⟩
  ·exact .inl h
  ·exact .inr h
 | cons i l1 ih=>
  intro a w hS hlx hap h
  have hlx':T=true→l1≠[]→l2≠[]:=fun hT _=>hlx hT (by simp)
  have hap' : ∀ i∈l1,∀ oi,ops[i]?=some oi→E oi=false∧oi.apart ops oj=true∧oj.apart ops oi=true:=fun k hk=>hap k (List.mem_cons_of_mem _ hk)
  simp only [List.cons_append,wpXi] at h ⊢
  cases hi : ops[i]? with
  | none=>
   simp only [hi] at h
   rcases ih a w hS hlx' hap' h with h | ⟨hw,h⟩
   ·exact .inl h
   ·exact .inr ⟨hw,Oper.wp_mono (fun a' w' h=>⟨fun _=>h.1 (fun hT=>by have:=hlx hT (by simp); simp [this]),h.2⟩) h⟩
  | some oi=>
   simp only [hi] at h
   obtain ⟨hEi,ap1,ap2⟩:=hap i (List.mem_cons_self ..) oi hi
   have se:=fun cs b=>hsel j oj cs b hj
   have sei:=fun cs b=>hsel i oi cs b hi
   rcases h with ⟨vi,hy,h⟩ | ⟨he,_⟩
   ·rcases ih _ w hS hlx' hap' h with ⟨v,hv,h'⟩ | ⟨hw,h'⟩
    ·refine .inl ⟨v,(yields_put se ap1).1 hv,.inl ⟨vi,(yields_put sei ap2).2 hy,?_⟩⟩
     rw [put_swap ap2]
     exact h'
    ·refine .inr ⟨?_,?_⟩
     ·rw [wanted_put oj a oi.dst vi (Oper.apart_spec ap1).1] at hw; exact hw
     ·refine wp_moved (a:=a.put oi.dst vi) (execOp_put oj se a oi.dst vi (Oper.apart_spec ap1).1).symm (by cases oi.dst <;> rfl) ?_ ?_ h'
      ·rintro u w' ⟨hS',h''⟩
       refine ⟨fun _=>hS' (fun hT=>by have:=hlx hT (by simp); simp [this]),.inl ⟨vi,(yields_put sei ap2).2 hy,?_⟩⟩
       rw [put_swap ap2]
       exact h''
      ·rintro d w' ⟨hS',h''⟩
       have hyd:YieldsIf P ops S oi vi { a with defers:=d :: a.defers }:=hy.of_same rfl rfl
       refine ⟨fun _=>hS' (fun hT=>by have:=hlx hT (by simp); simp [this]),.inl ⟨vi,(yields_put sei ap2).2 hyd,?_⟩⟩
       rw [put_swap ap2,← Act.put_defers]
       exact h''
   ·rw [hEi] at he; cases he
def leftX (ops:Array Oper) (listed:Array Bool):List Nat:=(List.range ops.size).filter fun i=>!listed.getD i true
theorem leftX_set {listed:Array Bool} {i:Nat} {l1 l2:List Nat} (h : leftX ops listed=l1 ++ i :: l2) : leftX ops (listed.setIfInBounds i true)=l1 ++ l2:=by
 have hnd : (leftX ops listed).Nodup:=List.Pairwise.filter _ List.nodup_range
 have hmem : i∈leftX ops listed:=by rw [h]; simp
 have hi : listed.getD i true=false:=by
  have:=(List.mem_filter.1 hmem).2
  simpa using this
 have hlt : i < listed.size:=by
  rcases Nat.lt_or_ge i listed.size with h | h
  ·exact h
  ·simp [Array.getElem?_eq_none h] at hi
 have e : leftX ops (listed.setIfInBounds i true)=(leftX ops listed).filter (fun k=>k != i):=by
  unfold leftX
  rw [List.filter_filter]
  congr 1
  funext k
  by_cases hk : k=i
  ·subst hk; simp [hlt]
  ·rw [getD_set_ne true (Ne.symm hk)]
   simp [hk]
 rw [e,h,List.filter_append,List.filter_cons]
 rw [h] at hnd
 have h1 : i∉l1:=fun hm=>by
  have:=List.nodup_append.1 hnd
  exact this.2.2 i hm i (by simp) rfl
 have h2 : i∉l2:=by
  have:=(List.nodup_append.1 hnd).2.1
  exact (List.nodup_cons.1 this).1
 have f1 : l1.filter (fun k=>k != i)=l1:=List.filter_eq_self.2 fun k hk=>by simp; rintro rfl; exact h1 hk
 have f2 : l2.filter (fun k=>k != i)=l2:=List.filter_eq_self.2 fun k hk=>by simp; rintro rfl; exact h2 hk
 simp [f1,f2]
theorem leftX_before {listed:Array Bool} {i:Nat} {l1 l2:List Nat} (h : leftX ops listed=l1 ++ i :: l2) : ∀ k∈l1,k < i:=by
 intro k hk
 have hs : (leftX ops listed).Pairwise (· < ·):=List.Pairwise.filter _ List.pairwise_lt_range
 rw [h,List.pairwise_append] at hs
 exact hs.2.2 k hk i (by simp)
theorem main_X (hok:OkX ops E) (hT:T=true → ∀ L:Nat→Prop,ClosedX ops L→L (ops.size - 1) → ∀ i < ops.size,L i) {Q:Exit→Act→World→Prop} (hR : ∀ a w,R a w→Q .normal a w) :
  ∀ (fuel:Nat) (listed:Array Bool) (a:Act) (w:World),(leftX ops listed).length=fuel→listed.size=ops.size→((T=true→leftX ops listed≠[])→S w) →
   (∀ i j x y,i < j→ops[i]?=some x→ops[j]?=some y→E x=true→E y=true→listed.getD j true=true→listed.getD i true=true) →
   ClosedX ops (fun j=>listed.getD j false=true) →
   wpXi P ops E T S R (leftX ops listed) a w→wpAny P .any ops Q fuel listed a w:=by
 intro fuel
 induction fuel with
 | zero=>
  intro listed a w hl _ hS hpre _ h
  have hnil:=List.eq_nil_of_length_eq_zero hl
  rw [hnil] at h
  refine ⟨?_,hR _ _ h⟩
  apply List.eq_nil_iff_forall_not_mem.2
  intro j hj
  obtain ⟨h0,o,ho,_⟩:=mem_ready.1 hj
  have : j∈leftX ops listed:=List.mem_filter.2 ⟨List.mem_range.2 (Array.getElem?_eq_some_iff.1 ho).1,by simpa using h0⟩
  rw [hnil] at this; cases this
 | succ fuel ih=>
  intro listed a w hl hso hS hpre hcl h
  have hS:S w:=hS (fun _ he=>by rw [he] at hl; simp at hl)
  refine ⟨fun hr=>?_,fun i hi=>?_⟩
  ·
   exfalso
   cases hlx : leftX ops listed with
   | nil=>rw [hlx] at hl; simp at hl
   | cons i rest=>
    have hm : i∈leftX ops listed:=by rw [hlx]; simp
    obtain ⟨hir,hun⟩:=List.mem_filter.1 hm
    have hlt:=List.mem_range.1 hir
    have ho : ops[i]?=some ops[i]:=Array.getElem?_eq_getElem hlt
    have : i∈Region.ready .any ops listed:=mem_ready.2 ⟨by simpa using hun,_,ho,fun e he hb=>by
     have hb':=hok.back i _ ho e he hb
     rcases Bool.eq_false_or_eq_true (listed.getD e.on true) with ht | hf
     ·rcases Nat.lt_or_ge e.on listed.size with hs | hs
      ·simp [hs] at ht ⊢; exact ht
      ·exfalso
       have hil : i < listed.size:=by
        rcases Nat.lt_or_ge i listed.size with h | h
        ·exact h
        ·have h0 : listed.getD i true=false:=by simpa using hun
         simp [Array.getElem?_eq_none h] at h0
       omega
     ·exfalso
      have hm2 : e.on∈leftX ops listed:=List.mem_filter.2 ⟨List.mem_range.2 (by omega),by simpa using hf⟩
      rw [hlx] at hm2
      rcases List.mem_cons.1 hm2 with h1 | h1
      ·omega
      ·have hs : (leftX ops listed).Pairwise (· < ·):=List.Pairwise.filter _ List.pairwise_lt_range
       rw [hlx,List.pairwise_cons] at hs
       have:=hs.1 _ h1
       omega⟩
    rw [hr] at this; cases this
  ·obtain ⟨h0,oi,hoi,hall⟩:=mem_ready.1 hi
   have hm : i∈leftX ops listed:=List.mem_filter.2 ⟨List.mem_range.2 (Array.getElem?_eq_some_iff.1 hoi).1,by simpa using h0⟩
   obtain ⟨l1,l2,hl12⟩:=List.append_of_mem hm
   have hset:=leftX_set hl12
   have hbef:=leftX_before hl12
   have hnolist : ∀ k∈l1,listed.getD k true=false:=fun k hk=>by
    have : k∈leftX ops listed:=by rw [hl12]; simp [hk]
    simpa using (List.mem_filter.1 this).2
   have hsz : ∀ k,listed.getD k true=false→k < listed.size:=fun k hk=>by
    rcases Nat.lt_or_ge k listed.size with h | h
    ·exact h
    ·simp [Array.getElem?_eq_none h] at hk
   have hnoedge : ∀ k∈l1,¬ ∃ e∈oi.after,Region.binds .any e=true∧e.on=k:=fun k hk=>by
    rintro ⟨e,he,hb,rfl⟩
    have h1:=hall e he hb
    have h2:=hnolist _ hk
    have h3:=hsz _ h2
    simp [h3] at h1 h2
    rw [h1] at h2; cases h2
   have hap : ∀ k∈l1,∀ ok,ops[k]?=some ok→ok.apart ops oi=true∧oi.apart ops ok=true:=fun k hk ok hko=>by
    rcases hok.pair k i ok oi (hbef k hk) hko hoi with h | h
    ·exact absurd h (hnoedge k hk)
    ·exact h
   have hlen : (leftX ops (listed.setIfInBounds i true)).length=fuel:=by
    rw [hset]; rw [hl12] at hl; simp at hl ⊢; omega
   have hisz:=hsz i h0
   rw [hl12] at h
   have hEl1:E oi=true → ∀ k∈l1,∀ ok,ops[k]?=some ok→E ok=false:=fun hEi k hk ok hko=>by
    cases hEk:E ok with
    | false=>rfl
    | true=>
     exfalso
     have : ∀ n,∀ k ok,ops[k]?=some ok→E ok=true→k < i→i - k=n→listed.getD k true=false→False:=by
      intro n
      induction n using Nat.strongRecOn with
      | _ n ihn=>
       intro k ok hko hEk hki hn hkun
       by_cases hbetween : ∃ m z,k < m∧m < i∧ops[m]?=some z∧E z=true
       ·obtain ⟨m,z,h1,h2,h3,h4⟩:=hbetween
        rcases Bool.eq_false_or_eq_true (listed.getD m true) with ht | hf
        ·have:=hpre k m ok z h1 hko h3 hEk h4 ht
         rw [hkun] at this; cases this
        ·exact ihn (i - m) (by omega) m z h3 h4 h2 rfl hf
       ·have hc:=hok.chain k i ok oi hki hko hoi hEk hEi (fun m z h1 h2 h3=>by
         cases hz:E z with
         | false=>rfl
         | true=>exact absurd ⟨m,z,h1,h2,h3,hz⟩ hbetween)
        have hL:ClosedX ops (fun x=>x=i∨listed.getD x false=true):=by
         intro j y hy hj e he hb
         rcases hj with rfl | hj
         ·rw [hoi] at hy; cases hy
          exact .inr (hall e he hb)
         ·exact .inr (hcl j y hy hj e he hb)
        rcases hc _ hL (.inl rfl) with h1 | h1
        ·omega
        ·have h3:=hsz _ hkun
         simp [h3] at h1 hkun
         rw [h1] at hkun; cases hkun
     exact this _ k ok hko hEk (hbef k hk) rfl (hnolist k hk)
   have hpre' : ∀ p q x y,p < q→ops[p]?=some x→ops[q]?=some y→E x=true→E y=true→(listed.setIfInBounds i true).getD q true=true→(listed.setIfInBounds i true).getD p true=true:=by
    intro p q x y hpq hx hy hEx hEy hq
    by_cases hpi : p=i
    ·subst hpi; simp [hisz]
    ·rw [getD_set_ne true (Ne.symm hpi)]
     by_cases hqi : q=i
     ·subst hqi
      rw [hoi] at hy; cases hy
      cases hp : listed.getD p true with
      | true=>rfl
      | false=>
       exfalso
       have hpm : p∈leftX ops listed:=List.mem_filter.2 ⟨List.mem_range.2 (Array.getElem?_eq_some_iff.1 hx).1,by simpa using hp⟩
       rw [hl12] at hpm
       rcases List.mem_append.1 hpm with h1 | h1
       ·have:=hEl1 hEy p h1 x hx; rw [hEx] at this; cases this
       ·rcases List.mem_cons.1 h1 with h1 | h1
        ·exact hpi h1
        ·have hs : (leftX ops listed).Pairwise (· < ·):=List.Pairwise.filter _ List.pairwise_lt_range
         rw [hl12,List.pairwise_append] at hs
         have:=(List.pairwise_cons.1 hs.2.1).1 p h1
         omega
     ·rw [getD_set_ne true (Ne.symm hqi)] at hq
      exact hpre p q x y hpq hx hy hEx hEy hq
   have hcl':ClosedX ops (fun j=>(listed.setIfInBounds i true).getD j false=true):=by
    intro j y hy hj e he hb
    by_cases hji : j=i
    ·subst hji
     rw [hoi] at hy; cases hy
     exact getD_set_true (hall e he hb)
    ·have hj' : listed.getD j false=true:=by
      rw [getD_set_ne false (Ne.symm hji)] at hj; exact hj
     exact getD_set_true (hcl j y hy hj' e he hb)
   have goal : ∀ a' w',((T=true→l1 ++ l2≠[])→S w')→wpXi P ops E T S R (l1 ++ l2) a' w'→wpAny P .any ops Q fuel (listed.setIfInBounds i true) a' w':=fun a' w' hS' h'=>
    ih _ a' w' hlen (by rw [Array.size_setIfInBounds]; exact hso) (by rw [hset]; exact hS') hpre' hcl' (by rw [hset]; exact h')
   cases hEi:E oi with
   | false=>
    obtain ⟨v,hv,h'⟩:=hoist hok.sel hoi l2 hEi l1 a w hS hap h
    exact hv.wpOp hoi hS (goal _ _ (fun _=>hS) h')
   | true=>
    have hlx:T=true→l1≠[]→l2≠[]:=fun ht hne hl2=>by
     subst hl2
     have hiS:=(Array.getElem?_eq_some_iff.1 hoi).1
     have hend : i=ops.size - 1:=by
      cases hlast : listed.getD (ops.size - 1) true with
      | false=>
       have hm3 : ops.size - 1∈leftX ops listed:=List.mem_filter.2 ⟨List.mem_range.2 (by omega),by simpa using hlast⟩
       rw [hl12] at hm3
       rcases List.mem_append.1 hm3 with h1 | h1
       ·have:=hbef _ h1; omega
       ·exact (List.mem_singleton.1 h1).symm
      | true=>
       exfalso
       have h3:=hT ht _ hcl (by
        by_cases hs : ops.size - 1 < listed.size
        ·simp [hs] at hlast ⊢; exact hlast
        ·omega) i hiS
       simp [hisz] at h3 h0
       rw [h0] at h3; cases h3
     have hL:ClosedX ops (fun x=>x=i∨listed.getD x false=true):=by
      intro j y hy hj e he hb
      rcases hj with rfl | hj
      ·rw [hoi] at hy; cases hy
       exact .inr (hall e he hb)
      ·exact .inr (hcl j y hy hj e he hb)
     cases l1 with
     | nil=>exact hne rfl
     | cons k l1=>
      have hki:=hbef k (by simp)
      rcases hT ht _ hL (.inl hend.symm) k (by omega) with h1 | h1
      ·omega
      ·have h2:=hnolist k (by simp)
       have h3:=hsz _ h2
       simp [h3] at h1 h2
       rw [h1] at h2; cases h2
    rcases sink hok.sel hoi l2 l1 a w hS hlx (fun k hk ok hko=>⟨hEl1 hEi k hk ok hko,hap k hk ok hko⟩) h with ⟨v,hv,h'⟩ | ⟨hw,h'⟩
    ·exact hv.wpOp hoi hS (goal _ _ (fun _=>hS) h')
    ·unfold wpOp
     simp only [hoi]
     rw [if_pos hw]
     exact .inl (Oper.wp_mono (fun a' w' h=>goal a' w' h.1 h.2) (wp_exits h'))
end
end Go.Mq
namespace Go.Mq
open Go Go.RowKit
section
variable {P:Program}
def Still (P:Program) {α:Type} (s:Sem α):Prop:=∀ w a w1,s.run P w = .ok a w1→w1=w ∧ ∀ w',s.run P w' = .ok a w'
def Never (P:Program) {α:Type} (s:Sem α):Prop:=∀ w a w1,s.run P w ≠ .ok a w1
theorem Never.still {α:Type} {s:Sem α} (h:Never P s):Still P s:=fun w a w1 hr=>absurd hr (h w a w1)
theorem Still.pure {α:Type} (a : α):Still P (pure a:Sem α):=fun w b w1 h=>by cases h; exact ⟨rfl,fun _=>rfl⟩
theorem Still.bind {α β:Type} {s:Sem α} {k : α→Sem β} (hs:Still P s) (hk : ∀ a,Still P (k a)):Still P (s >>= k):=fun w b w1 h=>by
 rw [Sem.run_bind] at h
 cases hr : s.run P w with
 | halt x w2=>rw [hr] at h; simp at h
 | ok a w2=>
  rw [hr] at h
  simp only [Result.andThen_ok] at h
  obtain ⟨rfl,h2⟩:=hs w a w2 hr
  obtain ⟨h3,h4⟩:=hk a _ b w1 h
  exact ⟨h3,fun w'=>by rw [Sem.run_bind,h2 w',Result.andThen_ok]; exact h4 w'⟩
theorem Never.bindR {α β:Type} {s:Sem α} {k : α→Sem β} (hk : ∀ a,Never P (k a)):Never P (s >>= k):=fun w b w1 h=>by
 rw [Sem.run_bind] at h
 cases hr : s.run P w with
 | halt x w2=>rw [hr] at h; simp at h
 | ok a w2=>rw [hr] at h; exact hk a w2 b w1 h
theorem Never.halt {α:Type} (x:Halt):Never P (Sem.halt x:Sem α):=fun w a w1 h=>by simp [Sem.run] at h
theorem Never.stuck {α:Type} (x:String):Never P (stuck x:Sem α):=Never.halt _
theorem Never.unsupported {α:Type} (x:Unsupported):Never P (unsupported x:Sem α):=Never.halt _
theorem Never.goPanic {α:Type} (x:Value):Never P (goPanic x:Sem α):=Never.halt _
theorem Still.program:Still P program:=fun w a w1 h=>by
 simp at h; obtain ⟨rfl,rfl⟩:=h; exact ⟨rfl,fun _=>rfl⟩
theorem never_panic {α:Type} (e:RuntimeError):Never P (runtimePanic e:Sem α):=by
 unfold runtimePanic
 refine Never.bindR fun p=>?_
 cases e with
 | typeAssertion i c a m=>exact Never.bindR fun _=>Never.bindR fun _=>Never.goPanic _
 | panicNil=>exact Never.bindR fun _=>Never.bindR fun _=>Never.goPanic _
 | _=>exact Never.goPanic _
theorem never_bounds {α:Type} (k:IntKind) (x y:Int) (c:BoundsCode):Never P (boundsPanic k x y c:Sem α):=by
 unfold boundsPanic
 dsimp only
 split
 ·exact Never.bindR fun _=>never_panic _
 ·exact Never.bindR fun _=>never_panic _
theorem still_typeInfo (t:TypeId):Still P (typeInfo t):=by
 unfold typeInfo
 refine Still.program.bind fun p=>?_
 split
 ·exact Still.pure _
 ·exact (Never.stuck _).still
theorem still_underlying (t:TypeId):Still P (underlying t):=by
 unfold underlying
 refine Still.program.bind fun p=>?_
 split
 ·exact Still.pure _
 ·exact (Never.stuck _).still
theorem still_zero (t:TypeId):Still P (zeroValue t):=by
 unfold zeroValue
 refine (still_typeInfo t).bind fun p=>?_
 split
 ·exact Still.pure _
 ·exact (Never.unsupported _).still
theorem still_sizeOf (t:TypeId):Still P (sizeOf t):=(still_typeInfo t).bind fun _=>Still.pure _
theorem still_isAgg (t:TypeId):Still P (isAgg t):=by
 unfold isAgg
 refine (still_underlying t).bind fun d=>?_
 split <;> exact Still.pure _
theorem still_part (t:TypeId) (cs:Array Value) (off:Nat):Still P (part t cs off):=by
 unfold part
 refine (still_isAgg t).bind fun b=>?_
 split
 ·exact (still_sizeOf t).bind fun _=>Still.pure _
 ·split
  ·exact Still.pure _
  ·exact (Never.stuck _).still
theorem still_sure (v:Value):Still P (Instr.sureAddr v):=by
 unfold Instr.sureAddr
 split
 ·exact Still.pure _
 ·exact (Never.stuck _).still
theorem still_asAddr (v:Value):Still P (asAddr v):=by
 unfold asAddr
 split
 ·exact Still.pure _
 ·exact (never_panic _).still
 ·exact (Never.stuck _).still
theorem still_asIntOf (v:Value):Still P (asIntOf v):=by
 unfold asIntOf
 split
 ·exact Still.pure _
 ·exact (Never.unsupported _).still
 ·exact (Never.stuck _).still
theorem still_asBool (v:Value):Still P (asBool v):=by
 unfold asBool
 split
 ·exact Still.pure _
 ·exact (Never.stuck _).still
theorem still_asAgg (v:Value):Still P (asAgg v):=by
 unfold asAgg
 split
 ·exact Still.pure _
 ·exact (Never.stuck _).still
theorem still_bound (x:Value) (y:Nat) (c:BoundsCode):Still P (Instr.sliceBound x y c):=by
 unfold Instr.sliceBound
 refine (still_asIntOf x).bind fun ⟨k,i⟩=>?_
 dsimp only
 split
 ·exact Still.pure _
 ·exact (never_bounds _ _ _ _).still
theorem still_bounds (b:Bool) (len cap:Nat) (lo hi mx:Option Value):Still P (Instr.sliceBounds b len cap lo hi mx):=by
 unfold Instr.sliceBounds
 dsimp only
 cases mx <;> cases hi <;> cases lo <;> dsimp only
 all_goals repeat' (first | exact Still.pure _ | exact (Never.stuck _).still | exact (Never.unsupported _).still | exact (never_panic _).still | exact (never_bounds _ _ _ _).still | exact still_bound _ _ _ | exact still_bounds _ _ _ _ _ _ | exact still_sure _ | exact still_asAddr _ | exact still_underlying _ | exact still_sizeOf _ | exact still_part _ _ _ | (refine Still.bind ?_ (fun _=>?_)) | (dsimp only; done) | split)
theorem still_slice (t:TypeId) (x:Value) (lo hi mx:Option Value):Still P (Instr.slice t x lo hi mx):=by
 unfold Instr.slice
 dsimp only
 repeat' (first | exact Still.pure _ | exact (Never.stuck _).still | exact (Never.unsupported _).still | exact (never_panic _).still | exact (never_bounds _ _ _ _).still | exact still_bound _ _ _ | exact still_bounds _ _ _ _ _ _ | exact still_sure _ | exact still_asAddr _ | exact still_underlying _ | exact still_sizeOf _ | exact still_part _ _ _ | (refine Still.bind ?_ (fun _=>?_)) | (dsimp only; done) | split)
theorem still_sliceAt (t:TypeId) (x:Value) (lo hi mx:Option Value):Still P (Instr.sliceAt t x lo hi mx):=by
 unfold Instr.sliceAt
 refine (still_underlying t).bind fun d=>?_
 split
 ·exact (still_sure _).bind fun _=>(still_bounds _ _ _ _ _ _).bind fun _=>(still_sizeOf _).bind fun _=>Still.pure _
 ·exact still_slice _ _ _ _ _
theorem still_index (t:TypeId) (x i:Value):Still P (Instr.index t x i):=by
 unfold Instr.index
 refine (still_asIntOf i).bind fun ⟨k,i⟩=>?_
 dsimp only
 refine (still_underlying t).bind fun d=>?_
 split
 ·split
  ·exact (still_sizeOf _).bind fun _=>still_part _ _ _
  ·exact (never_bounds _ _ _ _).still
 ·split
  ·exact Still.pure _
  ·exact (never_bounds _ _ _ _).still
 ·exact (Never.stuck _).still
theorem still_indexAt (t:TypeId) (x i:Value):Still P (Instr.indexAt t x i):=by
 unfold Instr.indexAt
 refine (still_asIntOf i).bind fun ki=>?_
 dsimp only
 repeat' (first | exact Still.pure _ | exact (Never.stuck _).still | exact (Never.unsupported _).still | exact (never_panic _).still | exact (never_bounds _ _ _ _).still | exact still_bound _ _ _ | exact still_bounds _ _ _ _ _ _ | exact still_sure _ | exact still_asAddr _ | exact still_underlying _ | exact still_sizeOf _ | exact still_part _ _ _ | (refine Still.bind ?_ (fun _=>?_)) | (dsimp only; done) | split)
theorem still_field (t:TypeId) (x:Value) (f:Nat):Still P (Instr.field t x f):=by
 unfold Instr.field
 refine (still_underlying t).bind fun d=>?_
 split
 ·split
  ·exact (still_asAgg _).bind fun _=>still_part _ _ _
  ·exact (Never.stuck _).still
 ·exact (Never.stuck _).still
theorem still_extract (x:Value) (i:Nat):Still P (Instr.extract x i):=by
 unfold Instr.extract
 split
 ·split
  ·exact Still.pure _
  ·exact (Never.stuck _).still
 ·exact (Never.stuck _).still
theorem still_iface (t:TypeId) (x:Value):Still P (Instr.makeInterface t x):=by
 unfold Instr.makeInterface
 refine (still_underlying t).bind fun d=>?_
 split
 ·exact (Never.stuck _).still
 ·exact Still.pure _
def opFit (P:Program) (o:Oper):Bool:=
 match o.op with
 | .fieldAddr s _ f=>match P.underlying s with
  | some (.struct fields)=>match fields[f]? with
   | some x=>match P.info? x.type with
    | some i=>i.size != 0
    | none=>false
   | none=>false
  | _=>false
 | .convert _ d _=>match P.underlying d with
  | some (.int _)=>true
  | _=>false
 | .build t _=>match P.underlying t with
  | some (.struct _)=>true
  | _=>false
 | _=>true
theorem still_fieldAt {s:TypeId} {x:Value} {f:Nat} {dst:Option Tmp} {y:Operand} {t:TypeId} {p:String} {af:Array Edge} {g:Option (Nat × Bool)}
  (h : opFit P ⟨dst,.fieldAddr s y f,t,p,af,g⟩=true):Still P (Instr.fieldAt s x f):=by
 simp only [opFit] at h
 unfold Instr.fieldAt
 intro w a w1 hr
 cases hu:P.underlying s with
 | none=>rw [hu] at h; simp at h
 | some d=>
  rw [hu] at h
  cases d <;> simp only [Bool.false_eq_true] at h
  rename_i fields
  have e : (underlying s:Sem TypeDesc) >>= (fun __discr=>match __discr with
    | .struct fields=>(match fields[f]? with
     | some f=>do let a ← Instr.sureAddr x; let __do_lift ← fieldPlace a f; pure (Value.pointer (some __do_lift))
     | x=>stuck "fieldAddr: no such field")
    | x=>stuck "fieldAddr: struct type expected")=Instr.fieldAt s x f:=rfl
  have hrun : ∀ w',(Instr.fieldAt s x f).run P w'=((match fields[f]? with
     | some f=>do let a ← Instr.sureAddr x; let __do_lift ← fieldPlace a f; pure (Value.pointer (some __do_lift))
     | x=>stuck "fieldAddr: no such field"):Sem Value).run P w':=fun w'=>by
   rw [← e,Sem.run_bind,run_underlying hu,Result.andThen_ok]
  have e2 : (do let __do_lift ← underlying s; match __do_lift with
    | .struct fields=>(match fields[f]? with
     | some f=>do let a ← Instr.sureAddr x; let __do_lift ← fieldPlace a f; pure (Value.pointer (some __do_lift))
     | x=>stuck "fieldAddr: no such field")
    | x=>stuck "fieldAddr: struct type expected")=Instr.fieldAt s x f:=rfl
  have hs:Still P ((match fields[f]? with
     | some f=>do let a ← Instr.sureAddr x; let __do_lift ← fieldPlace a f; pure (Value.pointer (some __do_lift))
     | x=>stuck "fieldAddr: no such field"):Sem Value):=by
   split
   ·rename_i fd hf
    rw [hf] at h
    simp only at h
    refine (still_sure x).bind fun a=>Still.bind ?_ fun _=>Still.pure _
    unfold fieldPlace
    intro w a' w1 hr
    cases hi:P.info? fd.type with
    | none=>rw [hi] at h; simp at h
    | some i=>
     rw [hi] at h
     have h0 : i.size≠0:=by simpa using h
     have hrun2 : ∀ w',(do if (← sizeOf fd.type)=0 then partAt a fd.offset fd.byteOffset else pure (a.add fd.offset):Sem Addr).run P w' = .ok (a.add fd.offset) w':=fun w'=>by
      simp [sizeOf,typeInfo,hi,h0]
     rw [hrun2] at hr
     cases hr
     exact ⟨rfl,hrun2⟩
   ·exact (Never.stuck _).still
  change (Instr.fieldAt s x f).run P w=_ at hr
  rw [hrun] at hr
  obtain ⟨h1,h2⟩:=hs w a w1 hr
  refine ⟨h1,fun w'=>?_⟩
  change (Instr.fieldAt s x f).run P w'=_
  rw [hrun]; exact h2 w'
end
end Go.Mq
namespace Go.Mq
open Go Go.RowKit
section
variable {P:Program}
theorem run_eql_still {op:BinOp} (t:TypeId) (x y:Value) (h : (match x,y with
  | .bool _,.bool _ | .pointer none,.pointer _ | .pointer (some _),.pointer none | .nilIface,.iface _ _ | .iface _ _,.nilIface | .nilIface,.nilIface=>true
  | _,_=>false)=true) (_hop : op = .eql∨op = .neq):Still P (Op.equal t x y):=by
 unfold Op.equal Op.maxDepth
 show Still P (Op.equalIn (9999 + 1) t x y)
 unfold Op.equalIn
 refine (still_underlying t).bind fun d=>?_
 cases x <;> cases y <;> simp only [Bool.false_eq_true] at h
 case bool.bool=>cases d <;> first | exact Still.pure _ | exact (Never.stuck _).still
 case pointer.pointer a b=>
  cases a <;> cases b <;> simp only [Bool.false_eq_true] at h
  all_goals (cases d <;> first | exact Still.pure _ | exact (Never.stuck _).still | exact (Never.unsupported _).still)
 case nilIface.iface=>cases d <;> first | exact Still.pure _ | exact (Never.stuck _).still
 case iface.nilIface=>cases d <;> first | exact Still.pure _ | exact (Never.stuck _).still
 case nilIface.nilIface=>cases d <;> first | exact Still.pure _ | exact (Never.stuck _).still
def stillK (ρ:Operand→Value) (o:Oper):Bool:=
 match o.op with
 | .move _ | .assign _ | .pick .. | .build .. | .makeInterface .. | .makeFunc .. | .fieldAddr .. | .field .. | .extract .. | .slice .. | .indexAddr .. | .index ..=>true
 | .nilCheck x=>match ρ x with
  | .pointer _ | .iface _ _ | .nilIface | .nilFunc | .func (.func _) _ _=>true
  | _=>false
 | .unOp _ _ x=>match ρ x with
  | .int _ _ | .bool _=>true
  | _=>false
 | .convert _ _ x=>match ρ x with
  | .int _ _=>true
  | _=>false
 | .binOp op _ x y _=>match ρ x,ρ y with
  | .int _ _,.int _ _ | .string _,.string _=>true
  | .bool _,.bool _ | .pointer none,.pointer _ | .pointer (some _),.pointer none=>op == .eql || op == .neq
  | .nilIface,.iface _ _ | .iface _ _,.nilIface=>op == .eql || op == .neq
  | _,_=>false
 | .call c=>match c.callee,c.args.toList with
  | .builtin .len,[x] | .builtin .cap,[x]=>match ρ x with
   | .slice _ _ _ | .string _=>true
   | _=>false
  | .builtin .min,[x,y]=>match ρ x,ρ y with
   | .int _ _,.int _ _=>true
   | _,_=>false
  | _,_=>false
 | _=>false
def StillV (P:Program) (s:Sem Next):Prop:=∀ w n w1,s.run P w = .ok n w1 → ∃ v,n = .value v∧w1=w ∧ ∀ w',s.run P w' = .ok (.value v) w'
theorem StillV.of {s:Sem Value} (h:Still P s):StillV P (do pure (.value (← s))):=fun w n w1 hr=>by
 rw [Sem.run_bind] at hr
 cases hs : s.run P w with
 | halt x w2=>rw [hs] at hr; simp at hr
 | ok v w2=>
  rw [hs] at hr
  simp at hr
  obtain ⟨rfl,rfl⟩:=hr
  obtain ⟨h1,h2⟩:=h w v _ hs
  exact ⟨v,rfl,h1,fun w'=>by rw [Sem.run_bind,h2 w']; simp⟩
theorem StillV.val (v:Value):StillV P (pure (.value v)):=fun w n w1 hr=>by
 simp at hr; obtain ⟨rfl,rfl⟩:=hr; exact ⟨v,rfl,rfl,fun _=>rfl⟩
theorem StillV.never {s:Sem Next} (h:Never P s):StillV P s:=fun w n w1 hr=>absurd hr (h w n w1)
theorem still_build {t:TypeId} {parts:Array (Nat × Value)} {dst:Option Tmp} {q:Array (Nat × Operand)} {ty:TypeId} {p:String} {af:Array Edge} {g:Option (Nat × Bool)}
  (h : opFit P ⟨dst,.build t q,ty,p,af,g⟩=true):Still P (Instr.build t parts):=by
 simp only [opFit] at h
 unfold Instr.build
 refine (still_zero t).bind fun z=>?_
 intro w a w1 hr
 cases hu:P.underlying t with
 | none=>rw [hu] at h; simp at h
 | some d=>
  rw [hu] at h
  cases d <;> simp only [Bool.false_eq_true] at h
  rename_i fields
  rw [Sem.run_bind,run_underlying hu,Result.andThen_ok] at hr
  have hm : ∀ (l:List Field),Still P (l.mapM (fun f=>do pure (f.offset,← sizeOf f.type)):Sem (List (Nat × Nat))):=by
   intro l
   induction l with
   | nil=>exact Still.pure _
   | cons x l ih=>
    rw [List.mapM_cons]
    exact ((still_sizeOf _).bind fun _=>Still.pure _).bind fun _=>ih.bind fun _=>Still.pure _
  have hs:Still P (do
    let places ← fields.mapM fun f=>do pure (f.offset,← sizeOf f.type)
    let some cells:=Instr.fill (places[·]?) z.cells parts.toList | stuck "build: no such field, or a part of the wrong size"
    pure (Value.agg cells):Sem Value):=by
   refine Still.bind ?_ fun places=>?_
   ·rw [Array.mapM_eq_mapM_toList]
    have:=hm fields.toList
    intro w a w1 hr
    rw [Sem.run_map] at hr
    cases hl : (fields.toList.mapM (fun f=>do pure (f.offset,← sizeOf f.type)):Sem (List (Nat × Nat))).run P w with
    | halt x w2=>rw [hl] at hr; simp at hr
    | ok l w2=>
     rw [hl] at hr
     simp at hr
     obtain ⟨rfl,rfl⟩:=hr
     obtain ⟨h1,h2⟩:=this w l _ hl
     exact ⟨h1,fun w'=>by rw [Sem.run_map,h2 w']; simp⟩
   ·split
    ·exact Still.pure _
    ·exact (Never.stuck _).still
  obtain ⟨h1,h2⟩:=hs w a w1 hr
  exact ⟨h1,fun w'=>by rw [Sem.run_bind,run_underlying hu,Result.andThen_ok]; exact h2 w'⟩
theorem still_conv {s d:TypeId} {k:IntKind} {n:Int} {dst:Option Tmp} {y:Operand} {ty:TypeId} {p:String} {af:Array Edge} {g:Option (Nat × Bool)}
  (h : opFit P ⟨dst,.convert s d y,ty,p,af,g⟩=true):Still P (convert s d (.int k n)):=by
 simp only [opFit] at h
 unfold convert
 refine (still_underlying s).bind fun ds=>?_
 intro w a w1 hr
 cases hu:P.underlying d with
 | none=>rw [hu] at h; simp at h
 | some dd=>
  rw [hu] at h
  cases dd <;> simp only [Bool.false_eq_true] at h
  rename_i k2
  rw [Sem.run_bind,run_underlying hu,Result.andThen_ok] at hr
  have hr' : (Conv.intToInt k2 n).run P w = .ok a w1:=hr
  simp [Conv.intToInt] at hr'
  obtain ⟨rfl,rfl⟩:=hr'
  exact ⟨rfl,fun w'=>by rw [Sem.run_bind,run_underlying hu,Result.andThen_ok]; rfl⟩
theorem still_binInt (op:BinOp) (t:TypeId) (j k:IntKind) (a b:Int):Still P (binOp op t (.int j a) (.int k b)):=by
 cases op <;> simp only [binOp,Op.shift,Op.intArith,Op.intDiv,Op.intBits,Op.intCmp] <;>
  repeat' (first | exact Still.pure _ | exact (Never.stuck _).still | exact (never_panic _).still | split)
theorem still_binStr (op:BinOp) (t:TypeId) (a b:ByteArray):Still P (binOp op t (.string a) (.string b)):=by
 cases op <;> simp only [binOp,Op.stringOp] <;>
  repeat' (first | exact Still.pure _ | exact (Never.stuck _).still | exact (Never.unsupported _).still | split)
theorem still_len (tys:Array TypeId) (ty:TypeId) (v:Value) (h : (match v with | .slice _ _ _ | .string _=>true | _=>false)=true):Still P (Builtin.len_ tys ty #[v]):=by
 unfold Builtin.len_
 cases ht : tys[0]? with
 | none=>simp only; exact (Never.stuck _).still
 | some t=>
  simp only [List.getElem?_toArray,List.getElem?_cons_zero]
  refine (still_underlying t).bind fun d=>?_
  cases v <;> (try simp only [Bool.false_eq_true] at h)
  all_goals (cases d <;> repeat' (first | exact Still.pure _ | exact (Never.stuck _).still | (refine (still_underlying _).bind fun d=>?_) | split))
theorem still_cap (tys:Array TypeId) (ty:TypeId) (v:Value) (h : (match v with | .slice _ _ _ | .string _=>true | _=>false)=true):Still P (Builtin.cap_ tys ty #[v]):=by
 unfold Builtin.cap_
 cases ht : tys[0]? with
 | none=>simp only; exact (Never.stuck _).still
 | some t=>
  simp only [List.getElem?_toArray,List.getElem?_cons_zero]
  refine (still_underlying t).bind fun d=>?_
  cases v <;> (try simp only [Bool.false_eq_true] at h)
  all_goals (cases d <;> repeat' (first | exact Still.pure _ | exact (Never.stuck _).still | (refine (still_underlying _).bind fun d=>?_) | split))
theorem still_min (tys:Array TypeId) (ty:TypeId) (j k:IntKind) (m n:Int):Still P (Builtin.min_ tys ty #[.int j m,.int k n]):=by
 have e : (Builtin.min_ tys ty #[.int j m,.int k n] : Sem Value)=pure (.int j (if n < m then n else m)):=by
  simp [Builtin.min_,Builtin.min2]
 rw [e]
 exact Still.pure _
theorem stillK_sound {ρ:Operand→Value} {o:Oper} (h : stillK ρ o=true) (hf : opFit P o=true):StillV P (execOp ρ o):=by
 obtain ⟨dst,op,ty,p,af,g⟩:=o
 cases op <;> simp only [stillK,Bool.false_eq_true] at h <;> simp only [execOp]
 case move=>exact StillV.val _
 case assign=>exact StillV.val _
 case pick c a b=>
  have e:=StillV.of (P:=P) (s:=do pure (if ← asBool (ρ c) then ρ a else ρ b)) ((still_asBool _).bind fun _=>Still.pure _)
  simpa using e
 case build t q=>exact StillV.of (still_build hf)
 case makeInterface=>exact StillV.of (still_iface _ _)
 case makeFunc=>exact StillV.of (Still.pure _)
 case fieldAddr=>exact StillV.of (still_fieldAt hf)
 case field=>exact StillV.of (still_field _ _ _)
 case extract=>exact StillV.of (still_extract _ _)
 case slice=>exact StillV.of (still_sliceAt _ _ _ _ _)
 case indexAddr=>exact StillV.of (still_indexAt _ _ _)
 case index=>exact StillV.of (still_index _ _ _)
 case nilCheck x=>
  generalize ρ x=v at h ⊢
  cases v <;> (try simp only [Bool.false_eq_true] at h)
  case pointer a=>cases a <;> first | exact StillV.val _ | exact StillV.never (never_panic _)
  case iface=>exact StillV.val _
  case nilIface=>exact StillV.never (never_panic _)
  case nilFunc=>exact StillV.never (never_panic _)
  case func fn _ _=>cases fn <;> first | exact StillV.val _ | (simp only [Bool.false_eq_true] at h)
 case unOp uo t x=>
  generalize ρ x=v at h ⊢
  refine StillV.of ?_
  cases v <;> simp only [Bool.false_eq_true] at h
  case bool b=>cases uo <;> simp only [Op.unary] <;> first | exact Still.pure _ | exact (Never.stuck _).still
  case int k n=>cases uo <;> simp only [Op.unary,Op.intArith,Op.intBits] <;> first | exact Still.pure _ | exact (Never.stuck _).still
 case convert s d x=>
  generalize hv : ρ x=v at h ⊢
  cases v <;> simp only [Bool.false_eq_true] at h
  exact StillV.of (still_conv hf)
 case binOp op t x y t2=>
  refine StillV.of (s:=do eqGuard op t x y (ρ x) (ρ y); binOp op t (ρ x) (ρ y)) ?_
  generalize ρ x=a at h ⊢
  generalize ρ y=b at h ⊢
  have eqp : (op == .eql || op == .neq)=true→op = .eql∨op = .neq:=fun h=>by simpa using h
  cases a <;> cases b <;> (try simp only [Bool.false_eq_true] at h)
  case int.int=>exact Still.bind (by unfold eqGuard; dsimp only; repeat' (first | exact Still.pure _ | split)) fun _=>still_binInt _ _ _ _ _ _
  case string.string=>exact Still.bind (by unfold eqGuard; dsimp only; repeat' (first | exact Still.pure _ | split)) fun _=>still_binStr _ _ _ _
  case bool.bool u v=>
   refine Still.bind (by unfold eqGuard; dsimp only; repeat' (first | exact Still.pure _ | split)) fun _=>?_
   rcases eqp h with rfl | rfl
   ·exact (run_eql_still (op:=.eql) _ _ _ rfl (.inl rfl)).bind fun _=>Still.pure _
   ·exact (run_eql_still (op:=.neq) _ _ _ rfl (.inr rfl)).bind fun _=>Still.pure _
  case pointer.pointer u v=>
   refine Still.bind (by unfold eqGuard; dsimp only; repeat' (first | exact Still.pure _ | split)) fun _=>?_
   cases u <;> cases v <;> (try simp only [Bool.false_eq_true] at h)
   all_goals
    rcases eqp h with rfl | rfl
    ·exact (run_eql_still (op:=.eql) _ _ _ rfl (.inl rfl)).bind fun _=>Still.pure _
    ·exact (run_eql_still (op:=.neq) _ _ _ rfl (.inr rfl)).bind fun _=>Still.pure _
  case iface.nilIface=>
   refine Still.bind (by unfold eqGuard; dsimp only; repeat' (first | exact Still.pure _ | split)) fun _=>?_
   rcases eqp h with rfl | rfl
   ·exact (run_eql_still (op:=.eql) _ _ _ rfl (.inl rfl)).bind fun _=>Still.pure _
   ·exact (run_eql_still (op:=.neq) _ _ _ rfl (.inr rfl)).bind fun _=>Still.pure _
  case nilIface.iface=>
   refine Still.bind (by unfold eqGuard; dsimp only; repeat' (first | exact Still.pure _ | split)) fun _=>?_
   rcases eqp h with rfl | rfl
   ·exact (run_eql_still (op:=.eql) _ _ _ rfl (.inl rfl)).bind fun _=>Still.pure _
   ·exact (run_eql_still (op:=.neq) _ _ _ rfl (.inr rfl)).bind fun _=>Still.pure _
 case call c=>
  obtain ⟨callee,args,tys⟩:=c
  obtain ⟨args⟩:=args
  cases callee with
  | value f=>simp at h
  | invoke r m=>simp at h
  | builtin b=>
   have h' : stillK ρ ⟨dst,.call ⟨.builtin b,⟨args⟩,tys⟩,ty,p,af,g⟩=true:=h
   clear h
   have run1 : ∀ (l:List Operand),StillV P (do let d ← resolve ρ ⟨.builtin b,⟨l⟩,tys⟩ ty; invoke d.target d.args) ↔
     StillV P (builtin b tys ty ((l.map fun | .const _=>true | _=>false).toArray) (l.map ρ).toArray):=fun l=>by
    have e : (do let d ← resolve ρ ⟨.builtin b,⟨l⟩,tys⟩ ty; invoke d.target d.args:Sem Next)=builtin b tys ty ((l.map fun | .const _=>true | _=>false).toArray) (l.map ρ).toArray:=by
     simp [resolve,invoke]
     rfl
    rw [e]
   rw [run1]
   cases args with
   | nil=>cases b <;> simp [stillK] at h'
   | cons x args=>
    cases args with
    | nil=>
     cases b <;> (try (simp [stillK] at h'; done))
     case len=>exact StillV.of (still_len _ _ _ (by simpa [stillK] using h'))
     case cap=>exact StillV.of (still_cap _ _ _ (by simpa [stillK] using h'))
    | cons y args=>
     cases args with
     | cons z args=>cases b <;> simp [stillK] at h'
     | nil=>
      cases b <;> (try (simp [stillK] at h'; done))
      case min=>
       simp only [stillK] at h'
       refine StillV.of ?_
       simp only [List.map_cons,List.map_nil]
       generalize ρ x=u at h' ⊢
       generalize ρ y=v at h' ⊢
       cases u <;> cases v <;> (try simp only [Bool.false_eq_true] at h')
       exact still_min _ _ _ _ _ _
variable {ops:Array Oper} {S:World→Prop} {R:Act→World→Prop} {E:Oper→Bool}
def wpX (P:Program) (ops:Array Oper) (E:Oper→Bool) (S:World→Prop) (R:Act→World→Prop):List Oper→Act→World→Prop
 | [],a,w=>R a w
 | o :: rest,a,w=>(∃ v,YieldsIf P ops S o v a∧wpX P ops E S R rest (a.put o.dst v) w) ∨
   (E o=true∧Region.wanted o (yielded ops a.tmps)=true∧o.wp P a w (fun a' w'=>S w'∧wpX P ops E S R rest a' w') NoExit)
theorem wpXi_eq (l:List Oper) : ∀ k,(∀ j,l[j]?=ops[k + j]?) → ∀ a w,wpX P ops E S R l a w→wpXi P ops E false S R (List.range' k l.length) a w:=by
 induction l with
 | nil=>intro k _ a w h; exact h
 | cons o l ih=>
  intro k h a w hx
  have h0 : ops[k]?=some o:=by simpa using (h 0).symm
  have ih':=ih (k + 1) (fun j=>by have:=h (j + 1); simpa [Nat.add_assoc,Nat.add_comm 1 j] using this)
  simp only [List.length_cons,List.range'_succ,wpXi,h0]
  rcases hx with ⟨v,h1,h2⟩ | ⟨h1,h2,h3⟩
  ·exact .inl ⟨v,h1,ih' _ _ h2⟩
  ·exact .inr ⟨h1,h2,Oper.wp_mono (fun a' w' h=>⟨fun _=>h.1,ih' _ _ h.2⟩) h3⟩
def isEff (o:Oper):Bool:=
 match o.op with
 | .move _ | .assign _ | .pick .. | .build .. | .makeInterface .. | .makeFunc .. | .fieldAddr .. | .field .. | .extract .. | .slice .. | .indexAddr .. | .index .. | .nilCheck _ | .unOp .. | .convert .. | .binOp .. | .load ..=>false
 | .call c=>match c.callee with
  | .builtin .len | .builtin .cap | .builtin .min=>false
  | _=>true
 | _=>true
def masks:List Oper→Array Nat→Array Nat
 | [],acc=>acc
 | o :: r,acc=>masks r (acc.push (o.after.toList.foldl (fun s e=>if Region.binds .any e then s ||| 2 ^ e.on ||| acc.getD e.on 0 else s) 0))
theorem fold_mask (acc:Array Nat) (i:Nat) (l:List Edge) : ∀ s:Nat,(l.foldl (fun s e=>if Region.binds .any e then s ||| 2 ^ e.on ||| acc.getD e.on 0 else s) s).testBit i=true →
  s.testBit i=true ∨ ∃ e∈l,Region.binds .any e=true∧(e.on=i∨(acc.getD e.on 0).testBit i=true):=by
 induction l with
 | nil=>intro s h; exact .inl h
 | cons e l ih=>
  intro s h
  rw [List.foldl_cons] at h
  rcases ih _ h with h1 | ⟨e',he',h1⟩
  ·split at h1
   ·rename_i hb
    rw [Nat.testBit_or,Nat.testBit_or,Nat.testBit_two_pow,Bool.or_eq_true,Bool.or_eq_true] at h1
    rcases h1 with (h1 | h1) | h1
    ·exact .inl h1
    ·exact .inr ⟨e,by simp,hb,.inl (by simpa using h1)⟩
    ·exact .inr ⟨e,by simp,hb,.inr h1⟩
   ·exact .inl h1
  ·exact .inr ⟨e',by simp [he'],h1⟩
theorem masks_spec (l:List Oper) : ∀ acc:Array Nat,(∀ j,l[j]?=ops[acc.size + j]?) →
  (∀ j m i,acc[j]?=some m→m.testBit i=true → ∀ L:Nat→Prop,ClosedX ops L→L j→L i) →
  ∀ j m i,(masks l acc)[j]?=some m→m.testBit i=true → ∀ L:Nat→Prop,ClosedX ops L→L j→L i:=by
 induction l with
 | nil=>intro acc _ h; exact h
 | cons o l ih=>
  intro acc hl h
  have h0 : ops[acc.size]?=some o:=by simpa using (hl 0).symm
  refine ih _ (fun j=>by rw [Array.size_push]; have:=hl (j + 1); simpa [Nat.add_assoc,Nat.add_comm 1 j] using this) ?_
  intro j m i hj hm L hL hLj
  rw [Array.getElem?_push] at hj
  split at hj
  ·rename_i hjs
   subst hjs
   cases hj
   rcases fold_mask acc i _ _ hm with h1 | ⟨e,he,hb,h1⟩
   ·simp at h1
   ·have hLe:=hL _ o h0 hLj e (by simpa using he) hb
    rcases h1 with rfl | h1
    ·exact hLe
    ·cases hacc : acc[e.on]? with
     | none=>simp [hacc] at h1
     | some m2=>
      have : acc.getD e.on 0=m2:=by simp [hacc]
      rw [this] at h1
      exact h e.on m2 i hacc h1 L hL hLe
  ·exact h j m i hj hm L hL hLj
def okXb (ops:Array Oper):Bool:=
 let l:=ops.toList.zipIdx
 let ms:=masks ops.toList #[]
 let es:=l.filter fun x=>isEff x.1
 (l.all fun (y,j)=>(match y.op with | .select ..=>false | _=>true) && y.after.all (fun e=>!Region.binds .any e || decide (e.on < j)) &&
  l.all fun (x,i)=>!(i < j) || ((y.after.any fun e=>Region.binds .any e && e.on == i) || (x.apart ops y && y.apart ops x))) &&
 es.all fun (_,j)=>es.all fun (_,i)=>!(i < j) || (ms.getD j 0).testBit i || es.any fun (_,k)=>i < k && k < j
theorem okXb_spec (h : okXb ops=true):OkX ops isEff:=by
 have mem : ∀ {i:Nat} {x:Oper},ops[i]?=some x→(x,i)∈ops.toList.zipIdx:=fun {i x} hx=>by
  rw [List.mem_zipIdx_iff_getElem?]; simpa using hx
 simp only [okXb,Bool.and_eq_true] at h
 obtain ⟨h,hch⟩:=h
 simp only [List.all_eq_true,Bool.and_eq_true,Prod.forall] at h hch
 refine ⟨fun j o cs b ho hsel=>?_,fun j o ho e he hb=>?_,fun i j x y hij hx hy=>?_,fun i j x y hij hx hy hEx hEy hno L hL hLj=>?_⟩
 ·have:=(h o j (mem ho)).1.1
  rw [hsel] at this; cases this
 ·have:=(h o j (mem ho)).1.2
  rw [Array.all_eq_true_iff_forall_mem] at this
  have:=this e he
  simpa [hb] using this
 ·have:=((h y j (mem hy)).2 x i (mem hx))
  simp only [hij,decide_true,Bool.not_true,Bool.false_or,Bool.and_eq_true,Bool.or_eq_true,Array.any_eq_true'] at this
  rcases this with ⟨e,he,h1⟩ | h1
  ·exact .inl ⟨e,he,by simpa using h1.1,by simpa using h1.2⟩
  ·exact .inr h1
 ·have me : ∀ {k:Nat} {z:Oper},ops[k]?=some z→isEff z=true→(z,k)∈(ops.toList.zipIdx.filter fun x=>isEff x.1):=fun hz he=>List.mem_filter.2 ⟨mem hz,he⟩
  have:=hch y j (me hy hEy) x i (me hx hEx)
  simp only [hij,decide_true,Bool.not_true,Bool.false_or,Bool.or_eq_true,List.any_eq_true,Prod.exists] at this
  rcases this with h1 | ⟨z,k,hz,h1⟩
  ·cases hm : (masks ops.toList #[])[j]? with
   | none=>simp [hm] at h1
   | some m=>
    have e : (masks ops.toList #[]).getD j 0=m:=by simp [hm]
    rw [e] at h1
    exact masks_spec (ops:=ops) ops.toList #[] (by simp) (by simp) j m i hm h1 L hL hLj
  ·exfalso
   obtain ⟨hz1,hz2⟩:=List.mem_filter.1 hz
   rw [List.mem_zipIdx_iff_getElem?] at hz1
   have h1' : i < k∧k < j:=by simpa using h1
   have:=hno k z h1'.1 h1'.2 (by simpa using hz1)
   rw [this] at hz2; simp at hz2
theorem wp_region_X {id:Nat} {l:List Oper} {Q:Exit→Act→World→Prop} {a:Act} {w:World} (S:World→Prop) (hm:P.follows .mixedOrders=true) (hok : okXb l.toArray=true)
  (hS:S w.drew) (h : wpX P l.toArray isEff S (fun a w=>Q .normal a w) l a w.drew) : (Code.region id l.toArray true).wp P Q a w:=by
 refine wp_region_any hm ?_
 have hall : leftX l.toArray (Array.replicate l.toArray.size false)=List.range l.length:=by
  unfold leftX
  rw [List.size_toArray]
  apply List.filter_eq_self.2
  intro i hi
  have:=List.mem_range.1 hi
  simp [this]
 refine main_X (T:=false) (okXb_spec hok) (fun h=>by cases h) (R:=fun a w=>Q .normal a w) (fun _ _ h=>h) _ _ _ _ (by rw [hall]; simp) (by simp) (fun _=>hS) ?_ ?_ ?_
 ·intro i j x y hij hx hy _ _ hj
  have hjl:=(Array.getElem?_eq_some_iff.1 hy).1
  rw [List.size_toArray] at hjl
  simp [hjl] at hj
 ·intro j y hy hj
  have hjl:=(Array.getElem?_eq_some_iff.1 hy).1
  rw [List.size_toArray] at hjl
  simp [hjl] at hj
 ·rw [hall]
  have:=wpXi_eq (ops:=l.toArray) l 0 (by simp) a w.drew h
  rwa [← List.range_eq_range'] at this
variable {a:Act} {w:World} {rest:List Oper} {o:Oper}
theorem wpX_nil (h:R a w) : wpX P ops E S R [] a w:=h
theorem wpX_skip (hw:Region.wanted o (yielded ops a.tmps)=false) (h : wpX P ops E S R rest (a.put o.dst undef) w) : wpX P ops E S R (o :: rest) a w:=
 .inl ⟨undef,.inr ⟨hw,rfl⟩,h⟩
theorem wpX_mv (hk : stillK a.eval o=true) (hw:Region.wanted o (yielded ops a.tmps)=true) (hf : opFit P o=true)
  (h : ∀ K:Act→World→Prop,(∀ a' w',wpX P ops E S R rest a' w'→K a' w')→o.wp P a w K NoExit) : wpX P ops E S R (o :: rest) a w:=by
 have h':=h _ (fun _ _ h=>h)
 have hst:=stillK_sound (P:=P) hk hf
 unfold Oper.wp at h'
 cases hr : (execOp a.eval o).run P w with
 | halt x w1=>
  rw [hr] at h'
  cases x <;> simp only [Oper.upon] at h'
  exact h'.elim
 | ok n w1=>
  obtain ⟨v,rfl,rfl,hall⟩:=hst w n w1 hr
  rw [hr] at h'
  exact .inl ⟨v,.inl ⟨hw,fun w' _=>hall w'⟩,h'⟩
theorem wpX_ld {t:TypeId} {x:Operand} (hop : o.op = .load t x) (hw:Region.wanted o (yielded ops a.tmps)=true) {p:Addr} (hp : a.eval x = .pointer (some p))
  (hS:S w) (hst : ∀ w',S w'→w'.heap[p.block]?=w.heap[p.block]? ∧ ∃ cs e f,w.heap[p.block]?=some (.cells cs e f))
  (h : ∀ K:Act→World→Prop,(∀ a' w',wpX P ops E S R rest a' w'→K a' w')→o.wp P a w K NoExit) : wpX P ops E S R (o :: rest) a w:=by
 have h':=h _ (fun _ _ h=>h)
 obtain ⟨dst,op,ty,ps,af,g⟩:=o
 simp only at hop
 subst hop
 have ld : ∀ (w w':World) (q:Addr) (v:Value) (w1:World),q.block=p.block→w'.heap[p.block]?=w.heap[p.block]?→(∃ cs e f,w.heap[p.block]?=some (.cells cs e f)) →
   (load q).run P w = .ok v w1→w1=w∧(load q).run P w' = .ok v w':=by
  intro w w' q v w1 hq heq ⟨cs,e,f,hc⟩ hr
  have hc2 : w.cell? q=w'.cell? q:=by simp [World.cell?,hq,heq]
  rw [run_load] at hr ⊢
  rw [← hc2]
  cases hcell : w.cell? q with
  | some u=>rw [hcell] at hr; simp at hr ⊢; exact ⟨hr.2.symm,hr.1⟩
  | none=>
   rw [hcell] at hr
   exfalso
   simp [World.farLoad,hq,hc] at hr
 have lds : ∀ (n i:Nat) (acc:Array Value) (w w':World) (v:Array Value) (w1:World),w'.heap[p.block]?=w.heap[p.block]?→(∃ cs e f,w.heap[p.block]?=some (.cells cs e f)) →
   (loadCellsFrom p i n acc).run P w = .ok v w1→w1=w∧(loadCellsFrom p i n acc).run P w' = .ok v w':=by
  intro n
  induction n with
  | zero=>intro i acc w w' v w1 _ _ hr; simp [loadCellsFrom] at hr ⊢; exact ⟨hr.2.symm,hr.1⟩
  | succ n ih=>
   intro i acc w w' v w1 heq hc hr
   simp only [loadCellsFrom,Sem.run_bind] at hr ⊢
   cases hl : (load (p.add i)).run P w with
   | halt x w2=>rw [hl] at hr; simp at hr
   | ok u w2=>
    rw [hl] at hr
    have hb : (p.add i).block=p.block:=by unfold Addr.add; split <;> rfl
    obtain ⟨rfl,h2⟩:=ld w w' _ u w2 hb heq hc hl
    rw [h2]
    simp only [Result.andThen_ok] at hr ⊢
    exact ih _ _ _ _ _ _ heq hc hr
 have all : ∀ (w w':World) (v:Value) (w1:World),w'.heap[p.block]?=w.heap[p.block]?→(∃ cs e f,w.heap[p.block]?=some (.cells cs e f)) →
   (Instr.loadAt t (.pointer (some p))).run P w = .ok v w1→w1=w∧(Instr.loadAt t (.pointer (some p))).run P w' = .ok v w':=by
  intro w w' v w1 heq hc hr
  unfold Instr.loadAt Instr.sureAddr at hr ⊢
  simp only [pure_bind] at hr ⊢
  unfold loadVar at hr ⊢
  rw [Sem.run_bind] at hr ⊢
  cases hi : (isAgg t).run P w with
  | halt x w2=>rw [hi] at hr; simp at hr
  | ok b w2=>
   obtain ⟨rfl,hi2⟩:=still_isAgg (P:=P) t w b w2 hi
   rw [hi] at hr
   rw [hi2 w']
   simp only [Result.andThen_ok] at hr ⊢
   cases b with
   | false=>
    simp only [Bool.false_eq_true,if_false] at hr ⊢
    exact ld _ _ _ _ _ rfl heq hc hr
   | true=>
    simp only [if_true,Sem.run_bind] at hr ⊢
    cases hs : (sizeOf t).run P w2 with
    | halt x w3=>rw [hs] at hr; simp at hr
    | ok n w3=>
     obtain ⟨rfl,hs2⟩:=still_sizeOf (P:=P) t _ n w3 hs
     rw [hs] at hr
     rw [hs2 w']
     simp only [Result.andThen_ok] at hr ⊢
     unfold loadCells at hr ⊢
     cases hl : (loadCellsFrom p 0 n #[]).run P w3 with
     | halt x w4=>rw [hl] at hr; simp at hr
     | ok cs w4=>
      obtain ⟨rfl,hl2⟩:=lds n 0 #[] _ w' cs w4 heq hc hl
      rw [hl] at hr
      rw [hl2]
      simp at hr ⊢
      exact ⟨hr.2.symm,hr.1⟩
 have ex : ∀ w',(execOp a.eval ⟨dst,.load t x,ty,ps,af,g⟩).run P w'=((Instr.loadAt t (.pointer (some p))).run P w').andThen fun v w=>.ok (.value v) w:=fun w'=>by
  simp only [execOp,hp]
  rw [Sem.run_bind]
  rfl
 unfold Oper.wp at h'
 rw [ex] at h'
 cases hr : (Instr.loadAt t (.pointer (some p))).run P w with
 | halt x w1=>
  rw [hr] at h'
  simp only [Result.andThen_halt] at h'
  cases x <;> simp only [Oper.upon] at h'
  exact h'.elim
 | ok v w1=>
  obtain ⟨hb,hc⟩:=hst w hS
  obtain ⟨rfl,_⟩:=all w w v w1 rfl hc hr
  rw [hr] at h'
  refine .inl ⟨v,.inl ⟨hw,fun w' hS'=>?_⟩,h'⟩
  rw [ex,(all _ w' v _ (hst w' hS').1 hc hr).2]
  rfl
theorem wpX_ef (hE:E o=true) (hw:Region.wanted o (yielded ops a.tmps)=true)
  (h : ∀ K:Act→World→Prop,(∀ a' w',S w'∧wpX P ops E S R rest a' w'→K a' w')→o.wp P a w K NoExit) : wpX P ops E S R (o :: rest) a w:=
 .inr ⟨hE,hw,h _ fun _ _ h=>h⟩
def Zone (X:List Nat) (w0:World) (b:Nat):Prop:=b∉X ∧ ∃ off v,w0.cell? ⟨b,off,none⟩=some v
theorem Zone.of {X:List Nat} {w0:World} {b off:Nat} {v:Value} (h : w0.cell? ⟨b,off,none⟩=some v) (hb : b∉X):Zone X w0 b:=⟨hb,off,v,h⟩
theorem cells_of_cell {w:World} {b off:Nat} {v:Value} (h : w.cell? ⟨b,off,none⟩=some v) : ∃ cs e f,w.heap[b]?=some (.cells cs e f):=by
 unfold World.cell? at h
 split at h
 ·rename_i cs e f hc; exact ⟨cs,e,f,hc⟩
 ·cases h
theorem wpX_ldC {X:List Nat} {w0:World} {t:TypeId} {x:Operand} (hop : o.op = .load t x) (hw:Region.wanted o (yielded ops a.tmps)=true) {p:Addr} (hp : a.eval x = .pointer (some p))
  (hz:Zone X w0 p.block) (hS:Chg X w0 w)
  (h : ∀ K:Act→World→Prop,(∀ a' w',wpX P ops E (Chg X w0) R rest a' w'→K a' w')→o.wp P a w K NoExit) : wpX P ops E (Chg X w0) R (o :: rest) a w:=by
 obtain ⟨hn,off,v,hc⟩:=hz
 have hlt : p.block < w0.heap.size:=World.block_lt_of_cell? w0 ⟨p.block,off,none⟩ hc
 refine wpX_ld hop hw hp hS (fun w' hS'=>⟨(hS'.block _ hlt hn).trans (hS.block _ hlt hn).symm,?_⟩) h
 rw [hS.block _ hlt hn]
 exact cells_of_cell hc
theorem wp_region_C {id:Nat} {l:List Oper} {Q:Exit→Act→World→Prop} {a:Act} {w:World} (X:List Nat) (hm:P.follows .mixedOrders=true) (hok : okXb l.toArray=true)
  (h : wpX P l.toArray isEff (Chg X w.drew) (fun a w=>Q .normal a w) l a w.drew) : (Code.region id l.toArray true).wp P Q a w:=
 wp_region_X _ hm hok (Chg.refl _ _) h
def stepX (P:Program) (ops:Array Oper) (E:Oper→Bool) (S:World→Prop) (R:Act→World→Prop) (o:Oper) (a:Act) (w:World):Prop:=
 (∃ v,YieldsIf P ops S o v a∧R (a.put o.dst v) w)∨(E o=true∧Region.wanted o (yielded ops a.tmps)=true∧o.wp P a w R NoExit)
theorem stepX_ef {o:Oper} {a:Act} {w:World} (hE:E o=true) (hw:Region.wanted o (yielded ops a.tmps)=true)
  (h : ∀ K:Act→World→Prop,(∀ a' w',R a' w'→K a' w')→o.wp P a w K NoExit) : stepX P ops E S R o a w:=.inr ⟨hE,hw,h _ fun _ _ h=>h⟩
theorem wpXi_tail {t:Oper} (l:List Oper) : ∀ k,(∀ j,(l ++ [t])[j]?=ops[k + j]?) → ∀ a w,wpX P ops E S (stepX P ops E S R t) l a w→wpXi P ops E true S R (List.range' k (l.length + 1)) a w:=by
 induction l with
 | nil=>
  intro k h a w hx
  have h0 : ops[k]?=some t:=by simpa using (h 0).symm
  simp only [List.length_nil,List.range'_succ,List.range'_zero,wpXi,h0]
  rcases hx with ⟨v,h1,h2⟩ | ⟨h1,h2,h3⟩
  ·exact .inl ⟨v,h1,h2⟩
  ·exact .inr ⟨h1,h2,Oper.wp_mono (fun a' w' h=>⟨fun hh=>by simp at hh,h⟩) h3⟩
 | cons o l ih=>
  intro k h a w hx
  have h0 : ops[k]?=some o:=by simpa using (h 0).symm
  have ih':=ih (k + 1) (fun j=>by have:=h (j + 1); simpa [Nat.add_assoc,Nat.add_comm 1 j] using this)
  rw [List.length_cons,List.range'_succ]
  simp only [wpXi,h0]
  rcases hx with ⟨v,h1,h2⟩ | ⟨h1,h2,h3⟩
  ·exact .inl ⟨v,h1,ih' _ _ h2⟩
  ·exact .inr ⟨h1,h2,Oper.wp_mono (fun a' w' h=>⟨fun _=>h.1,ih' _ _ h.2⟩) h3⟩
def okTb (ops:Array Oper):Bool:=okXb ops && (List.range (ops.size - 1)).all fun i=>((masks ops.toList #[]).getD (ops.size - 1) 0).testBit i
theorem wp_region_T {id:Nat} {l:List Oper} {Q:Exit→Act→World→Prop} {a:Act} {w:World} (X:List Nat) (hm:P.follows .mixedOrders=true) (hok : okTb l.toArray=true) {t:Oper} (ht : l.getLast?=some t)
  (h : wpX P l.toArray isEff (Chg X w.drew) (stepX P l.toArray isEff (Chg X w.drew) (fun a w=>Q .normal a w) t) l.dropLast a w.drew) : (Code.region id l.toArray true).wp P Q a w:=by
 refine wp_region_any hm ?_
 have hall : leftX l.toArray (Array.replicate l.toArray.size false)=List.range l.length:=by
  unfold leftX
  rw [List.size_toArray]
  apply List.filter_eq_self.2
  intro i hi
  have:=List.mem_range.1 hi
  simp [this]
 obtain ⟨h1,h2⟩:=Bool.and_eq_true_iff.1 hok
 have hl : l.dropLast ++ [t]=l:=by
  have hne : l≠[]:=by rintro rfl; cases ht
  rw [List.getLast?_eq_some_getLast hne] at ht
  cases ht
  exact List.dropLast_concat_getLast hne
 have hlen : l.length=l.dropLast.length + 1:=by
  have:=congrArg List.length hl
  simp at this; simp; omega
 refine main_X (T:=true) (S:=Chg X w.drew) (okXb_spec h1) (fun _ L hL hlast i hi=>?_) (R:=fun a w=>Q .normal a w) (fun _ _ h=>h) _ _ _ _ (by rw [hall]; simp) (by simp) (fun _=>Chg.refl _ _) ?_ ?_ ?_
 ·by_cases hil : i=l.toArray.size - 1
  ·rw [hil]; exact hlast
  ·have hb:=List.all_eq_true.1 h2 i (List.mem_range.2 (by omega))
   cases hm' : (masks l.toArray.toList #[])[l.toArray.size - 1]? with
   | none=>simp only [Array.getD_eq_getD_getElem?,hm',Option.getD_none] at hb; simp at hb
   | some m=>
    simp only [Array.getD_eq_getD_getElem?,hm',Option.getD_some] at hb
    exact masks_spec (ops:=l.toArray) l.toArray.toList #[] (by simp) (by simp) _ m i hm' hb L hL hlast
 ·intro i j x y hij hx hy _ _ hj
  have hjl:=(Array.getElem?_eq_some_iff.1 hy).1
  rw [List.size_toArray] at hjl
  simp [hjl] at hj
 ·intro j y hy hj
  have hjl:=(Array.getElem?_eq_some_iff.1 hy).1
  rw [List.size_toArray] at hjl
  simp [hjl] at hj
 ·rw [hall,hlen,List.range_eq_range']
  exact wpXi_tail l.dropLast 0 (fun j=>by rw [hl]; simp) a w.drew h
def isApp (o:Oper):Bool:=match o.op with
 | .call c=>match c.callee with
  | .builtin .append=>true
  | _=>false
 | _=>false
theorem wpX_ef' {o:Oper} {rest:List Oper} {a:Act} {w:World} (_hna : isApp o=false) (hE:E o=true) (hw:Region.wanted o (yielded ops a.tmps)=true)
  (h : ∀ K:Act→World→Prop,(∀ a' w',S w'∧wpX P ops E S R rest a' w'→K a' w')→o.wp P a w K NoExit) : wpX P ops E S R (o :: rest) a w:=wpX_ef hE hw h
theorem wpX_append {o:Oper} {rest:List Oper} {a:Act} {w:World} (s x:Operand) (t:TypeId)
  (ho : o.op = .call { callee:=.builtin .append,args:=#[s,x],argTypes:=#[t,t] }) (hE:E o=true) (hw:Region.wanted o (yielded ops a.tmps)=true)
  (e:TypeId) (z:Value) (size bytes:Nat) (hi : (P.info? e).map (fun i=>(i.zero,i.size,i.bytes))=some (some z,size,bytes)) (ht:P.underlying t=some (.slice e))
  (hzs : z.cells.size=size) (hsz : 0 < size)
  (v:Value) (n:Nat) (xs:List Value) (hs : a.eval s=v) (hown : w.ownsRow 0 e size v n xs)
  (ad:Addr) (m c:Nat) (news:List Value) (hx : a.eval x = .slice (some ad) m c) (hl : news.length=m * size) (hnews : ∀ j u,news[j]?=some u→w.cell? (ad.add j)=some u) (h1 : ∀ u∈news,u.oneCell'=true)
  (hbytes : (n + m) * bytes≤140737488355328) (h63 : n + m≤maxLen)
  (h : ∀ v' w',w'.ownsRow 0 e size v' (n + m) (xs ++ news)→Chg (blk v) w w'→Moved w v v'→S w'∧wpX P ops E S R rest (a.put o.dst v') w') : wpX P ops E S R (o :: rest) a w:=by
 refine .inr ⟨hE,hw,?_⟩
 obtain ⟨i,hi,hz,hsize,hby⟩:=info_parts hi
 obtain ⟨v',w',hr,h2,h3,h4⟩:=append_slice (P:=P) w 0 t o.type e i z size bytes ht hi hz hsize hby hzs hsz v n xs hown ad m c news hl hnews h1 h63 hbytes (Nat.zero_le _)
 unfold Oper.wp execOp
 simp only [ho,resolve,invoke,builtin,Sem.run_bind,Sem.run_pure,Result.andThen_ok,List.map_toArray,List.map_cons,List.map_nil,hs,hx,hr]
 exact h v' w' h2 h3 h4
theorem cells_new (w:World) (us:List Value) (t:TypeId) : ∀ j x,us[j]?=some x→(w.alloc (.cells us.toArray t)).cell? ((⟨w.heap.size,0,none⟩ : Addr).add j)=some x:=by
 intro j x h
 have hb:=Blk.new w us.toArray t
 have h2:=hb.cell j x (by simpa using h)
 cases j with
 | zero=>exact h2
 | succ j=>simpa only [Addr.add,Nat.zero_add,Nat.add_eq_zero_iff,Nat.succ_ne_self,if_false,and_false,Nat.succ_eq_add_one,Nat.one_ne_zero] using h2
theorem gX {l:List Oper} {a:Act} {w:World} (h : wpX P ops E S R l a w) : wpX P ops E S R l a w:=h
theorem sK {o:Oper} {rest:List Oper} {a:Act} {w:World} (h : wpX P ops E S R rest (a.put o.dst undef) w) (hw:Region.wanted o (yielded ops a.tmps)=false:=by exact rfl) : wpX P ops E S R (o :: rest) a w:=wpX_skip hw h
theorem sM {o:Oper} {rest:List Oper} {a:Act} {w:World} (h : ∀ K:Act→World→Prop,(∀ a' w',wpX P ops E S R rest a' w'→K a' w')→o.wp P a w K NoExit) (hk : stillK a.eval o=true:=by exact rfl) (hw:Region.wanted o (yielded ops a.tmps)=true:=by exact rfl) (hf : opFit P o=true:=by kernel_rfl) : wpX P ops E S R (o :: rest) a w:=wpX_mv hk hw hf h
theorem sL {o:Oper} {rest:List Oper} {a:Act} {w:World} {X:List Nat} {w0:World} {t:TypeId} {x:Operand} {p:Addr} (h : ∀ K:Act→World→Prop,(∀ a' w',wpX P ops E (Chg X w0) R rest a' w'→K a' w')→o.wp P a w K NoExit) (hop : o.op = .load t x:=by exact rfl) (hw:Region.wanted o (yielded ops a.tmps)=true:=by exact rfl) (hp : a.eval x = .pointer (some p):=by exact rfl)
  (hz:Zone X w0 p.block:=by exact Zone.of (by assumption) (by simp)) (hS:Chg X w0 w:=by assumption) : wpX P ops E (Chg X w0) R (o :: rest) a w:=wpX_ldC hop hw hp hz hS h
theorem sE {o:Oper} {rest:List Oper} {a:Act} {w:World} (h : ∀ K:Act→World→Prop,(∀ a' w',S w'∧wpX P ops E S R rest a' w'→K a' w')→o.wp P a w K NoExit) (hna : isApp o=false:=by exact rfl) (hE:E o=true:=by exact rfl) (hw:Region.wanted o (yielded ops a.tmps)=true:=by exact rfl) : wpX P ops E S R (o :: rest) a w:=wpX_ef' hna hE hw h
end
end Go.Mq
namespace Go.Mq
open Go Go.RowKit
section
variable {P:Program} {ops:Array Oper} {Q:Exit→Act→World→Prop}
theorem wpAny_inv (I : (Nat→Prop)→Act→World→Prop) (hback : ∀ (j:Nat) (o:Oper),ops[j]?=some o → ∀ e∈o.after,Region.binds .any e=true→e.on < j)
  (hend : ∀ D a w,(∀ i,i < ops.size→D i)→I D a w→Q .normal a w)
  (hstep : ∀ D a w i o,ops[i]?=some o→¬ D i→(∀ e∈o.after,Region.binds .any e=true→D e.on)→I D a w→wpOp P ops Q i (fun a' w'=>I (fun j=>D j∨j=i) a' w') a w) :
  ∀ (fuel:Nat) (listed:Array Bool) (a:Act) (w:World),(leftX ops listed).length=fuel→listed.size=ops.size→I (fun i=>listed.getD i false=true) a w→wpAny P .any ops Q fuel listed a w:=by
 intro fuel
 induction fuel with
 | zero=>
  intro listed a w hl hs hI
  have hnil:=List.eq_nil_of_length_eq_zero hl
  refine ⟨?_,hend _ a w (fun i hi=>?_) hI⟩
  ·apply List.eq_nil_iff_forall_not_mem.2
   intro j hj
   obtain ⟨h0,o,ho,_⟩:=mem_ready.1 hj
   have : j∈leftX ops listed:=List.mem_filter.2 ⟨List.mem_range.2 (Array.getElem?_eq_some_iff.1 ho).1,by simpa using h0⟩
   rw [hnil] at this; cases this
  ·rcases Bool.eq_false_or_eq_true (listed.getD i true) with h | h
   ·have hi2 : i < listed.size:=by rw [hs]; exact hi
    simp [hi2] at h ⊢; exact h
   ·have : i∈leftX ops listed:=List.mem_filter.2 ⟨List.mem_range.2 hi,by simpa using h⟩
    rw [hnil] at this; cases this
 | succ fuel ih=>
  intro listed a w hl hs hI
  refine ⟨fun hr=>?_,fun i hi=>?_⟩
  ·exfalso
   cases hlx : leftX ops listed with
   | nil=>rw [hlx] at hl; simp at hl
   | cons i rest=>
    have hm : i∈leftX ops listed:=by rw [hlx]; simp
    obtain ⟨hir,hun⟩:=List.mem_filter.1 hm
    have hlt:=List.mem_range.1 hir
    have ho : ops[i]?=some ops[i]:=Array.getElem?_eq_getElem hlt
    have : i∈Region.ready .any ops listed:=mem_ready.2 ⟨by simpa using hun,_,ho,fun e he hbe=>by
     have hb':=hback i _ ho e he hbe
     rcases Bool.eq_false_or_eq_true (listed.getD e.on true) with ht | hf
     ·have hes : e.on < listed.size:=by omega
      simp [hes] at ht ⊢; exact ht
     ·exfalso
      have hm2 : e.on∈leftX ops listed:=List.mem_filter.2 ⟨List.mem_range.2 (by omega),by simpa using hf⟩
      rw [hlx] at hm2
      rcases List.mem_cons.1 hm2 with h1 | h1
      ·omega
      ·have hp : (leftX ops listed).Pairwise (· < ·):=List.Pairwise.filter _ List.pairwise_lt_range
       rw [hlx,List.pairwise_cons] at hp
       have:=hp.1 _ h1
       omega⟩
    rw [hr] at this; cases this
  ·obtain ⟨h0,oi,hoi,hall⟩:=mem_ready.1 hi
   have hil : i < listed.size:=by rw [hs]; exact (Array.getElem?_eq_some_iff.1 hoi).1
   have hm : i∈leftX ops listed:=List.mem_filter.2 ⟨List.mem_range.2 (Array.getElem?_eq_some_iff.1 hoi).1,by simpa using h0⟩
   obtain ⟨l1,l2,hl12⟩:=List.append_of_mem hm
   have hset:=leftX_set hl12
   refine wpOp_mono (fun a' w' h=>ih _ a' w' (by rw [hset]; rw [hl12] at hl; simp at hl ⊢; omega) (by simpa using hs) ?_) (hstep _ a w i oi hoi (by simp [hil] at h0 ⊢; exact h0) hall hI)
   have e : (fun j=>listed.getD j false=true∨j=i)=(fun j=>(listed.setIfInBounds i true).getD j false=true):=by
    funext j
    apply propext
    by_cases hj : j=i
    ·subst hj; simp [hil]
    ·rcases Nat.lt_or_ge j listed.size with h | h
     ·simp [h,hj,Ne.symm hj]
     ·simp [Nat.not_lt.2 h,hj]
   rw [← e]
   exact h
theorem wp_region_I {id:Nat} {l:List Oper} {a:Act} {w:World} (I : (Nat→Prop)→Act→World→Prop) (hm:P.follows .mixedOrders=true)
  (hback : (l.zipIdx.all fun (o,j)=>o.after.all (fun e=>!Region.binds .any e || decide (e.on < j)))=true) (h0:I (fun _=>False) a w.drew)
  (hend : ∀ D a w,(∀ i,i < l.length→D i)→I D a w→Q .normal a w)
  (hstep : ∀ D a w i o,l[i]?=some o→¬ D i→(∀ e∈o.after,Region.binds .any e=true→D e.on)→I D a w→wpOp P l.toArray Q i (fun a' w'=>I (fun j=>D j∨j=i) a' w') a w) :
  (Code.region id l.toArray true).wp P Q a w:=by
 refine wp_region_any hm ?_
 have hall : leftX l.toArray (Array.replicate l.toArray.size false)=List.range l.length:=by
  unfold leftX
  rw [List.size_toArray]
  apply List.filter_eq_self.2
  intro i hi
  have:=List.mem_range.1 hi
  simp [this]
 refine wpAny_inv I (fun j o ho e he hbe=>?_) (fun D a w hD hI=>hend D a w (fun i hi=>hD i (by simpa using hi)) hI) (fun D a w i o ho=>hstep D a w i o (by simpa using ho)) _ _ _ _ (by rw [hall]; simp) (by simp) ?_
 ·rw [List.all_eq_true] at hback
  have hj : (o,j)∈l.zipIdx:=by
   rw [List.mk_mem_zipIdx_iff_getElem?]
   simpa using ho
  have h2:=hback _ hj
  rw [Array.all_eq_true'] at h2
  have h3:=h2 e he
  simpa [hbe] using h3
 ·have e : (fun _:Nat=>False)=(fun i=>(Array.replicate l.toArray.size false).getD i false=true):=by
   funext i
   apply propext
   constructor
   ·exact False.elim
   ·intro h
    rcases Nat.lt_or_ge i l.length with hi | hi
    ·simp [hi] at h
    ·simp [Nat.not_lt.2 hi] at h
  rw [← e]
  exact h0
end
end Go.Mq
namespace Go.Mq
open Go Go.RowKit
section
variable {P:Program} {ops:Array Oper} {Q:Exit→Act→World→Prop} {X:Exit→World→Prop}
theorem wp_dead_moved {o:Oper} {a a2:Act} {w:World} (hx : execOp a2.eval o=execOp a.eval o) (h : o.wp P a w (fun _ _=>False) (fun e _ w'=>X e w')) : o.wp P a2 w (fun _ _=>False) (fun e _ w'=>X e w'):=by
 unfold Oper.wp at *
 rw [hx]
 generalize (execOp a.eval o).run P w=r at *
 cases r with
 | ok n w'=>
  cases n <;> simp only [Oper.upon] at h ⊢
  case enter f args=>
   refine Calls.mono h fun e w'' he=>?_
   cases e with
   | returned u=>exact he
   | panicked c=>exact he
   | outgrown=>exact he
  case row row args=>exact Rows.mono h fun u w'' he=>he
 | halt x w'=>
  cases x <;> simp only [Oper.upon] at h ⊢
  case panic u=>exact h
theorem wp_dead_exit {o:Oper} {a:Act} {w:World} {K:Act→World→Prop} (hX : ∀ e w',X e w' → ∃ ch,e = .panic ch ∧ ∀ a',a'.defers=a.defers→Q (.panic ch) a' w') (h : o.wp P a w (fun _ _=>False) (fun e _ w'=>X e w')) : o.wp P a w K Q:=by
 unfold Oper.wp at *
 generalize (execOp a.eval o).run P w=r at *
 cases r with
 | ok n w'=>
  cases n <;> simp only [Oper.upon] at h ⊢
  case enter f args=>
   refine Calls.mono h fun e w'' he=>?_
   cases e with
   | returned u=>exact he.elim
   | panicked c=>obtain ⟨ch,hch,hq⟩:=hX _ _ he; cases hch; exact hq a rfl
   | outgrown=>obtain ⟨_,_,he⟩:=he; obtain ⟨ch,hch,_⟩:=hX _ _ he; cases hch
  case row row args=>exact Rows.mono h fun u w'' he=>he.elim
 | halt x w'=>
  cases x <;> simp only [Oper.upon] at h ⊢
  case panic u=>obtain ⟨ch,hch,hq⟩:=hX _ _ h; cases hch; exact hq a rfl
theorem dead_call {oc:Oper} {S:World→Prop} {w:World} (hsel : ∀ cs b,oc.op ≠ .select cs b) : ∀ (L:List Nat) (a:Act),(∀ k∈L,∀ ok,ops[k]?=some ok→ok.apart ops oc=true) →
  wpXi P ops (fun _=>false) false S (fun a w=>Region.wanted oc (yielded ops a.tmps)=true∧oc.wp P a w (fun _ _=>False) (fun e _ w'=>X e w')) L a w →
  Region.wanted oc (yielded ops a.tmps)=true∧oc.wp P a w (fun _ _=>False) (fun e _ w'=>X e w'):=by
 intro L
 induction L with
 | nil=>exact fun a _ h=>h
 | cons k L ih=>
  intro a hap h
  have hap' : ∀ j∈L,∀ oj,ops[j]?=some oj→oj.apart ops oc=true:=fun j hj=>hap j (List.mem_cons_of_mem _ hj)
  simp only [wpXi] at h
  cases hk : ops[k]? with
  | none=>rw [hk] at h; exact ih a hap' h
  | some ok=>
   rw [hk] at h
   rcases h with ⟨v,_,h⟩ | ⟨h,_⟩
   ·obtain ⟨h1,h2⟩:=ih _ hap' h
    obtain ⟨g1,_,_⟩:=Oper.apart_spec (hap k (List.mem_cons_self ..) ok hk)
    refine ⟨?_,wp_dead_moved (execOp_put oc hsel a ok.dst v g1).symm h2⟩
    rw [wanted_put oc a ok.dst v g1] at h1
    exact h1
   ·cases h
structure OkD (ops:Array Oper) (c:Nat) (pl:List Nat):Prop where
 ok:OkX ops isEff
 sorted : pl.Pairwise (· < ·)
 size : ∀ i∈pl,i < ops.size
 free : ∀ i∈pl,i≠c ∧ ∀ o,ops[i]?=some o → ∀ e∈o.after,Region.binds .any e=true→e.on≠c
 rest : ∀ i o,ops[i]?=some o→i∈pl∨i=c ∨ ∃ e∈o.after,Region.binds .any e=true∧e.on∉pl
def okDb (ops:Array Oper) (c:Nat) (pl:List Nat):Bool:=
 okXb ops && decide (pl.Pairwise (· < ·)) && pl.all (fun i=>decide (i < ops.size) && decide (i≠c) && match ops[i]? with
  | some o=>o.after.all fun e=>!Region.binds .any e || decide (e.on≠c)
  | none=>true) && (List.range ops.size).all fun i=>pl.contains i || decide (i=c) || match ops[i]? with
  | some o=>o.after.any fun e=>Region.binds .any e && !pl.contains e.on
  | none=>true
theorem okDb_spec {c:Nat} {pl:List Nat} (h : okDb ops c pl=true):OkD ops c pl:=by
 simp only [okDb,Bool.and_eq_true,decide_eq_true_eq,List.all_eq_true] at h
 obtain ⟨⟨⟨h1,h2⟩,h3⟩,h4⟩:=h
 refine ⟨okXb_spec h1,h2,fun i hi=>(h3 i hi).1.1,fun i hi=>⟨(h3 i hi).1.2,fun o ho e he hb=>?_⟩,fun i o ho=>?_⟩
 ·have:=(h3 i hi).2
  rw [ho] at this
  simp only [Array.all_eq_true_iff_forall_mem] at this
  have:=this e he
  simpa [hb] using this
 ·have hi:=(Array.getElem?_eq_some_iff.1 ho).1
  have:=h4 i (List.mem_range.2 hi)
  rw [ho] at this
  simp only [Bool.or_eq_true,decide_eq_true_eq,List.contains_iff_mem] at this
  rcases this with (h | h) | h
  ·exact .inl h
  ·exact .inr (.inl h)
  ·rw [Array.any_eq_true'] at h
   obtain ⟨e,he,h⟩:=h
   simp at h
   exact .inr (.inr ⟨e,he,h.1,h.2⟩)
theorem wp_region_dead0 {id:Nat} {l:List Oper} {a:Act} {w:World} {c:Nat} {oc:Oper} {pl:List Nat} (hm:P.follows .mixedOrders=true) (hback : (l.zipIdx.all fun (o,j)=>o.after.all (fun e=>!Region.binds .any e || decide (e.on < j)))=true)
  (hok:OkD l.toArray c pl) (hc : l.toArray[c]?=some oc)
  (h : wpXi P l.toArray (fun _=>false) false (fun w'=>w'=w.drew) (fun a1 w1=>Region.wanted oc (yielded l.toArray a1.tmps)=true∧oc.wp P a1 w1 (fun _ _=>False) (fun e _ w'=>∃ ch,e = .panic ch ∧ ∀ a',a'.defers=a.defers→Q (.panic ch) a' w')) pl a w.drew) :
  (Code.region id l.toArray true).wp P Q a w:=by
 refine wp_region_I (fun D a' w'=>w'=w.drew∧a'.defers=a.defers∧(∀ j,D j→j∈pl) ∧ ∃ L:List Nat,L.Pairwise (· < ·)∧(∀ j,j∈L↔j∈pl∧¬ D j)∧wpXi P l.toArray (fun _=>false) false (fun w'=>w'=w.drew) (fun a1 w1=>Region.wanted oc (yielded l.toArray a1.tmps)=true∧oc.wp P a1 w1 (fun _ _=>False) (fun e _ w'=>∃ ch,e = .panic ch ∧ ∀ a',a'.defers=a.defers→Q (.panic ch) a' w')) L a' w')
  hm hback ⟨rfl,rfl,fun _ h=>h.elim,pl,hok.sorted,fun j=>by simp,h⟩ ?_ ?_
 ·rintro D a1 w1 hall ⟨_,_,hD,_⟩
  exact absurd rfl (hok.free c (hD c (hall c (by simpa using (Array.getElem?_eq_some_iff.1 hc).1)))).1
 ·rintro D a1 w1 i oi hoi' hDi hdeps ⟨rfl,hdf,hD,L,hs,hL,hx⟩
  have hoi : l.toArray[i]?=some oi:=by simpa using hoi'
  clear hoi'
  by_cases hic : i=c
  ·subst hic
   rw [hc] at hoi; cases hoi
   obtain ⟨h1,h2⟩:=dead_call (X:=fun e w'=>∃ ch,e = .panic ch ∧ ∀ a',a'.defers=a.defers→Q (.panic ch) a' w') (fun cs b=>hok.ok.sel i oc cs b hc) _ a1 (fun k hk ok hko=>by
    obtain ⟨hkp,hkd⟩:=(hL k).1 hk
    obtain ⟨hki,hke⟩:=hok.free k hkp
    rcases Nat.lt_or_ge k i with hlt | hge
    ·rcases hok.ok.pair k i ok oc hlt hko hc with ⟨e,he,hb,hon⟩ | hap
     ·exact absurd (hon ▸ hdeps e he hb) hkd
     ·exact hap.1
    ·rcases hok.ok.pair i k oc ok (by omega) hc hko with ⟨e,he,hb,hon⟩ | hap
     ·exact absurd hon (hke ok hko e he hb)
     ·exact hap.2) hx
   unfold wpOp
   simp only [hc]
   rw [if_pos h1]
   refine .inl (wp_dead_exit (X:=fun e w'=>∃ ch,e = .panic ch ∧ ∀ a',a'.defers=a.defers→Q (.panic ch) a' w') (fun e w' ⟨ch,he,hq⟩=>⟨ch,he,fun a' ha=>hq a' (ha.trans hdf)⟩) h2)
  ·have hip : i∈pl:=by
    rcases hok.rest i oi hoi with h | h | ⟨e,he,hb,hn⟩
    ·exact h
    ·exact absurd h hic
    ·exact absurd (hD _ (hdeps e he hb)) hn
   have him : i∈L:=(hL i).2 ⟨hip,hDi⟩
   obtain ⟨l1,l2,rfl⟩:=List.append_of_mem him
   obtain ⟨v,hv,hx'⟩:=hoist (S:=fun w'=>w'=w.drew) (fun j o cs b=>hok.ok.sel j o cs b) hoi l2 rfl l1 a1 w.drew rfl (fun k hk ok hko=>by
    have hlt : k < i:=(List.pairwise_append.1 hs).2.2 k hk i (by simp)
    have hkd : ¬ D k:=((hL k).1 (by simp [hk])).2
    rcases hok.ok.pair k i ok oi hlt hko hoi with ⟨e,he,hb,hon⟩ | hap
    ·exact absurd (hon ▸ hdeps e he hb) hkd
    ·exact hap) hx
   rw [List.pairwise_append,List.pairwise_cons] at hs
   refine hv.wpOp hoi rfl ⟨rfl,?_,?_,l1 ++ l2,List.pairwise_append.2 ⟨hs.1,hs.2.1.2,fun x hx y hy=>hs.2.2 x hx y (by simp [hy])⟩,fun j=>?_,hx'⟩
   ·cases oi.dst <;> exact hdf
   ·rintro j (h | rfl)
    ·exact hD j h
    ·exact hip
   ·have:=hL j
    by_cases hji : j=i
    ·subst hji
     have n1 : j∉l1:=fun h=>by have:=hs.2.2 j h j (by simp); omega
     have n2 : j∉l2:=fun h=>by have:=hs.2.1.1 j h; omega
     simp [n1,n2]
    ·simp only [List.mem_append,List.mem_cons,hji,false_or] at this
     simp only [List.mem_append,hji,or_false]
     exact this
def pick:List Oper→List Bool→List Oper
 | o :: l,true :: m=>o :: pick l m
 | _ :: l,false :: m=>pick l m
 | _,_=>[]
def places:Nat→List Bool→List Nat
 | _,[]=>[]
 | n,true :: m=>n :: places (n + 1) m
 | n,false :: m=>places (n + 1) m
theorem wpXi_pick {S:World→Prop} {R:Act→World→Prop} (m:List Bool) : ∀ (l:List Oper) (n:Nat),(∀ j,l[j]?=ops[n + j]?) → ∀ a w,wpX P ops (fun _=>false) S R (pick l m) a w→wpXi P ops (fun _=>false) false S R (places n m) a w:=by
 induction m with
 | nil=>intro l n _ a w h; cases l <;> exact h
 | cons b m ih=>
  intro l n hl a w h
  cases l with
  | nil=>
   have none : ∀ k (m:List Bool),n≤k → ∀ a w,R a w→wpXi P ops (fun _=>false) false S R (places k m) a w:=by
    intro k m
    induction m generalizing k with
    | nil=>intro _ a w h; exact h
    | cons b m ih2=>
     intro hk a w h
     cases b with
     | false=>exact ih2 (k + 1) (by omega) a w h
     | true=>
      have : ops[k]?=none:=by have:=hl (k - n); rw [show n + (k - n)=k by omega] at this; rw [← this]; simp
      simp only [places,wpXi,this]
      exact ih2 (k + 1) (by omega) a w h
   exact none n (b :: m) (Nat.le_refl _) a w (by cases b <;> exact h)
  | cons o l=>
   have h0 : ops[n]?=some o:=by simpa using (hl 0).symm
   have hl' : ∀ j,l[j]?=ops[n + 1 + j]?:=fun j=>by have:=hl (j + 1); simpa [Nat.add_assoc,Nat.add_comm 1 j] using this
   cases b with
   | false=>exact ih l (n + 1) hl' a w h
   | true=>
    simp only [places,wpXi,h0]
    rcases h with ⟨v,h1,h2⟩ | ⟨h1,_⟩
    ·exact .inl ⟨v,h1,ih l (n + 1) hl' _ _ h2⟩
    ·cases h1
theorem wp_region_dead {id:Nat} {l:List Oper} {a:Act} {w:World} (c:Nat) (m:List Bool) {oc:Oper} (hm:P.follows .mixedOrders=true) (hback : (l.zipIdx.all fun (o,j)=>o.after.all (fun e=>!Region.binds .any e || decide (e.on < j)))=true)
  (hok : okDb l.toArray c (places 0 m)=true) (hc : l[c]?=some oc)
  (h : wpX P l.toArray (fun _=>false) (fun w'=>w'=w.drew) (fun a1 w1=>Region.wanted oc (yielded l.toArray a1.tmps)=true∧oc.wp P a1 w1 (fun _ _=>False) (fun e _ w'=>∃ ch,e = .panic ch ∧ ∀ a',a'.defers=a.defers→Q (.panic ch) a' w')) (pick l m) a w.drew) :
  (Code.region id l.toArray true).wp P Q a w:=
 wp_region_dead0 hm hback (okDb_spec hok) (by simpa using hc) (wpXi_pick m l 0 (by simp) a w.drew h)
theorem wpX_ld1 {E:Oper→Bool} {S:World→Prop} {R:Act→World→Prop} {o:Oper} {rest:List Oper} {a:Act} {w:World} {t:TypeId} {x:Operand} (hop : o.op = .load t x) (hw:Region.wanted o (yielded ops a.tmps)=true) {p:Addr} (hp : a.eval x = .pointer (some p))
  (v:Value) (hag : ∀ w,(isAgg t).run P w = .ok false w) (hS : ∀ w',S w'→w'.cell? p=some v) (h : wpX P ops E S R rest (a.put o.dst v) w) : wpX P ops E S R (o :: rest) a w:=by
 refine .inl ⟨v,.inl ⟨hw,fun w' hS'=>?_⟩,h⟩
 obtain ⟨dst,op,ty,ps,af,g⟩:=o
 simp only at hop
 subst hop
 simp [execOp,hp,Instr.loadAt,Instr.sureAddr,loadVar,hag,run_load,hS w' hS']
theorem wpX_ldD {E:Oper→Bool} {R:Act→World→Prop} {o:Oper} {rest:List Oper} {a:Act} {w0:World} {t:TypeId} {x:Operand} (hop : o.op = .load t x) (hw:Region.wanted o (yielded ops a.tmps)=true) {p:Addr} (hp : a.eval x = .pointer (some p))
  (hc : ∃ off v,w0.cell? ⟨p.block,off,none⟩=some v)
  (h : ∀ K:Act→World→Prop,(∀ a' w',wpX P ops E (fun w'=>w'=w0) R rest a' w'→K a' w')→o.wp P a w0 K NoExit) : wpX P ops E (fun w'=>w'=w0) R (o :: rest) a w0:=by
 obtain ⟨off,v,hc⟩:=hc
 refine wpX_ld hop hw hp rfl (fun w' hw'=>?_) h
 subst hw'
 exact ⟨rfl,cells_of_cell hc⟩
theorem wp_region_XT {id:Nat} {l:List Oper} {a:Act} {w:World} (S:World→Prop) (hm:P.follows .mixedOrders=true) (hok : okTb l.toArray=true) {t:Oper} (ht : l.getLast?=some t) (hS:S w.drew)
  (h : wpX P l.toArray isEff S (stepX P l.toArray isEff S (fun a w=>Q .normal a w) t) l.dropLast a w.drew) : (Code.region id l.toArray true).wp P Q a w:=by
 refine wp_region_any hm ?_
 have hall : leftX l.toArray (Array.replicate l.toArray.size false)=List.range l.length:=by
  unfold leftX
  rw [List.size_toArray]
  apply List.filter_eq_self.2
  intro i hi
  have:=List.mem_range.1 hi
  simp [this]
 obtain ⟨h1,h2⟩:=Bool.and_eq_true_iff.1 hok
 have hl : l.dropLast ++ [t]=l:=by
  have hne : l≠[]:=by rintro rfl; cases ht
  rw [List.getLast?_eq_some_getLast hne] at ht
  cases ht
  exact List.dropLast_concat_getLast hne
 have hlen : l.length=l.dropLast.length + 1:=by
  have:=congrArg List.length hl
  simp at this; simp; omega
 refine main_X (T:=true) (S:=S) (okXb_spec h1) (fun _ L hL hlast i hi=>?_) (R:=fun a w=>Q .normal a w) (fun _ _ h=>h) _ _ _ _ (by rw [hall]; simp) (by simp) (fun _=>hS) ?_ ?_ ?_
 ·by_cases hil : i=l.toArray.size - 1
  ·rw [hil]; exact hlast
  ·have hb:=List.all_eq_true.1 h2 i (List.mem_range.2 (by omega))
   cases hm' : (masks l.toArray.toList #[])[l.toArray.size - 1]? with
   | none=>simp only [Array.getD_eq_getD_getElem?,hm',Option.getD_none] at hb; simp at hb
   | some m=>
    simp only [Array.getD_eq_getD_getElem?,hm',Option.getD_some] at hb
    exact masks_spec (ops:=l.toArray) l.toArray.toList #[] (by simp) (by simp) _ m i hm' hb L hL hlast
 ·intro i j x y hij hx hy _ _ hj
  have hjl:=(Array.getElem?_eq_some_iff.1 hy).1
  rw [List.size_toArray] at hjl
  simp [hjl] at hj
 ·intro j y hy hj
  have hjl:=(Array.getElem?_eq_some_iff.1 hy).1
  rw [List.size_toArray] at hjl
  simp [hjl] at hj
 ·rw [hall,hlen,List.range_eq_range']
  exact wpXi_tail l.dropLast 0 (fun j=>by rw [hl]; simp) a w.drew h
end
end Go.Mq
