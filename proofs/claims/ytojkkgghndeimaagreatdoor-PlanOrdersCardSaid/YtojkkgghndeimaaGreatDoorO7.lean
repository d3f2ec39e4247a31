/- Some texts in one. -/
import Derived.MapKept
import Derived.Test.YtojkkgghndeimaaGreatDoorO1
import Derived.Test.YtojkkgghndeimaaGreatDoorO6
namespace Go.Proofs.YtojkkgghndeimaaGreatDoor
open Go Go.RowKit Go.Mq Go.Mq.Tree
set_option maxRecDepth 100000
theorem kind_ne (k:Kind) : (((k.num:Nat):Int) != 4)=true:=by cases k <;> decide
end Go.Proofs.YtojkkgghndeimaaGreatDoor
namespace Go.Mq.Tree
open Go Go.RowKit Go.Mq
theorem bs_beq (a b:List UInt8) : (bs a == bs b)=(a == b):=by
 rw [Bool.eq_iff_iff,MapKept.bytes_beq,beq_iff_eq]
 constructor
 ·intro h; simpa using congrArg (fun x:ByteArray=>x.data.toList) h
 ·rintro rfl; rfl
section
variable {P:Program} {T K E:TypeId}
end
end Go.Mq.Tree
namespace Go.Proofs.YtojkkgghndeimaaGreatDoor
open Go Go.RowKit Go.Mq Go.Mq.Tree
set_option maxRecDepth 100000
set_option maxHeartbeats 2000000
end Go.Proofs.YtojkkgghndeimaaGreatDoor
namespace Go.Mq.Tree
open Go Go.RowKit Go.Mq
theorem Ended.thrown {α:Type} {w w2:World} {B bp bt z en p:Nat} {V:World→α→Value→Prop} {e:Ending} (h:Ended w B bp bt z (.bad en p:R α) V e w2) : ∃ b,e = .panicked [{ v:=.iface 91 (.agg #[.iface 167 (ptr b)]),recovered:=false }]:=by
 obtain ⟨_,b,he,_⟩:=h
 exact ⟨b,he⟩
theorem Ended.part {α:Type} {w w2:World} {B bp bt z:Nat} {o:R α} {V:World→α→Value→Prop} {e:Ending} (h:Ended w B bp bt z o V e w2) :
  (∃ en q b,e = .panicked [{ v:=.iface 91 (.agg #[.iface 167 (ptr b)]),recovered:=false }]∧Hid (o = .bad en q)∧Hid (Ended w B bp bt z (.bad en q:R α) V (.panicked [{ v:=.iface 91 (.agg #[.iface 167 (ptr b)]),recovered:=false }]) w2)) ∨
  ∃ a r,Hid (o = .ok a r)∧Ended w B bp bt z (.ok a r) V e w2:=by
 cases o with
 | bad en q=>obtain ⟨b,rfl⟩:=h.thrown; exact .inl ⟨en,q,b,rfl,Lib.hid rfl,Lib.hid h⟩
 | ok a r=>exact .inr ⟨a,r,Lib.hid rfl,h⟩
end Go.Mq.Tree
namespace Go.Proofs.YtojkkgghndeimaaGreatDoor
open Go Go.RowKit Go.Mq Go.Mq.Tree
set_option maxRecDepth 100000
set_option maxHeartbeats 2000000
end Go.Proofs.YtojkkgghndeimaaGreatDoor
