/- Some texts in one. -/
import Derived.Test.YtechofppmnnomaaGreatDoorB12
import Derived.Test.YtechofppmnnomaaGreatDoorB23
namespace Go.Mq.fo
open Go Go.RowKit Go.Mq Go.Mq.Tree
theorem xe {w:World} {F:Nat→Prop} {a:Option Addr} {l:List (List UInt8)} (h:Row w F a (l.map str)) {k:Nat} {n:List UInt8} (hk : l[k]?=some n) : ∃ b o,a=some ⟨b,o,none⟩∧w.cell? ⟨b,o + k,none⟩=some (str n):=by
 obtain⟨b,o,rfl,hc⟩:=h.at_ (by have:=(List.getElem?_eq_some_iff.1 hk).1;simp;omega);exact⟨b,o,rfl,hc k (str n) (by rw [List.getElem?_map,hk];rfl)⟩
theorem CX {α:Type} {l:List α} {k:Nat} {x : α} (h : l[k]?=some x) : l=l.take k ++ x :: l.drop (k + 1)∧(l.take k).length=k:=by
 obtain⟨hk,he⟩:=List.getElem?_eq_some_iff.1 h;refine⟨?_,by simp;omega⟩;rw [← he,← List.drop_eq_getElem_cons hk,List.take_append_drop]
theorem Q5 {α:Type} {l:List α} {k:Nat} {x : α} (h : l[k]?=some x) : l.take (k + 1)=l.take k ++ [x]:=by
 rw [List.take_add_one,h];rfl
theorem drop_cons {α:Type} {l:List α} {k:Nat} {x : α} (h : l[k]?=some x) : l.drop k=x :: l.drop (k + 1):=by
 obtain⟨hk,he⟩:=List.getElem?_eq_some_iff.1 h;rw [← he,← List.drop_eq_getElem_cons hk]
theorem Q6 {w:World} {F:Nat→Prop} {a:Option Addr} {c:Nat} {l:List (List UInt8)} (h:Row w F a (l.map str)) (hc : l.length≤c) {k:Nat} (hk : k≤l.length):eF w F (l.take k) (.slice a k c):=by
 refine⟨a,c,by rw [List.length_take,Nat.min_eq_left hk],by rw [List.length_take];omega,fun h0=>?_,fun h0 p hp=>h.own (by simp at h0 ⊢;omega) p hp⟩;obtain⟨b,o,ha,hcell⟩:=h.at_ (by simp at h0 ⊢;omega);refine⟨b,o,ha,fun i v hv=>hcell i v ?_⟩;rw [List.getElem?_map] at hv ⊢;rw [List.getElem?_take] at hv;split at hv
 ·exact hv
 ·cases hv
end Go.Mq.fo
