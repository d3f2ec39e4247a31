/- Some texts in one. -/
import Derived.Test.YtilhhkokdfajiaaGreatDoorI12
import Derived.Test.YtilhhkokdfajiaaGreatDoorI13
namespace Go.Mq.Sym
open Go Go.RowKit Go.Mq Go.Mq.Tree
theorem names_cell {w:World} {F:Nat→Prop} {a:Option Addr} {l:List (List UInt8)} (h:Row w F a (l.map str)) {k:Nat} {n:List UInt8} (hk : l[k]?=some n) : ∃ b o,a=some ⟨b,o,none⟩∧w.cell? ⟨b,o + k,none⟩=some (str n):=by
 obtain ⟨b,o,rfl,hc⟩:=h.at_ (by have:=(List.getElem?_eq_some_iff.1 hk).1; simp; omega)
 exact ⟨b,o,rfl,hc k (str n) (by rw [List.getElem?_map,hk]; rfl)⟩
theorem flat3 : ∀ l:List Sy,(l.flatMap Sy.cells).length=l.length * 3
 | []=>rfl
 | x :: r=>by rw [List.flatMap_cons,List.length_append,flat3 r]; simp [Sy.cells]; omega
end Go.Mq.Sym
namespace Go.Proofs.YtilhhkokdfajiaaGreatDoor
open Go Go.RowKit Go.Mq Go.Mq.Tree Go.Mq.Sym
set_option maxRecDepth 100000
set_option maxHeartbeats 2000000
end Go.Proofs.YtilhhkokdfajiaaGreatDoor
