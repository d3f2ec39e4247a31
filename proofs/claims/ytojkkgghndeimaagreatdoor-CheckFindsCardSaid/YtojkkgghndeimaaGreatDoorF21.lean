/- Some texts in one. -/
import Derived.Test.YtojkkgghndeimaaGreatDoorF19
import Derived.Test.YtojkkgghndeimaaGreatDoorF20
namespace Go.Mq.Sym
open Go Go.RowKit Go.Mq Go.Mq.Tree
theorem names_cell {w:World} {F:Nat→Prop} {a:Option Addr} {l:List (List UInt8)} (h:Row w F a (l.map str)) {k:Nat} {n:List UInt8} (hk : l[k]?=some n) : ∃ b o,a=some ⟨b,o,none⟩∧w.cell? ⟨b,o + k,none⟩=some (str n):=by
 obtain ⟨b,o,rfl,hc⟩:=h.at_ (by have:=(List.getElem?_eq_some_iff.1 hk).1; simp; omega)
 exact ⟨b,o,rfl,hc k (str n) (by rw [List.getElem?_map,hk]; rfl)⟩
end Go.Mq.Sym
namespace Go.Proofs.YtojkkgghndeimaaGreatDoor
open Go Go.RowKit Go.Mq Go.Mq.Tree Go.Mq.Sym
set_option maxRecDepth 100000
set_option maxHeartbeats 2000000
end Go.Proofs.YtojkkgghndeimaaGreatDoor
