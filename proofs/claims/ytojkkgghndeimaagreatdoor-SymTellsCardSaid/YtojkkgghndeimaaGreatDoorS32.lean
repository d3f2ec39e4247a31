/- Some texts in one. -/
import Derived.Test.YtojkkgghndeimaaGreatDoorS27
import Derived.Test.YtojkkgghndeimaaGreatDoorS30
import Derived.Test.YtojkkgghndeimaaGreatDoorS31
namespace Go.Proofs.YtojkkgghndeimaaGreatDoor
open Go Go.RowKit Go.Mq Go.Mq.Tree Go.Mq.Ref
set_option maxRecDepth 100000
theorem modS {w:World} {F:Nat→Prop} {M:Mod} {v:Value} (h:ModAt w F M v) : ∃ a1 c1 a2 c2 a3 c3 a4 c4,v = .agg #[str M.name,.slice a1 M.imports.length c1,.slice a2 M.vars.length c2,.slice a3 M.procs.length c3,.slice a4 M.body.len c4]∧SlAt w F M.body (.slice a4 M.body.len c4):=by
 obtain ⟨_,_,_,_,rfl,⟨_,_,rfl,_⟩,⟨_,_,rfl,_⟩,⟨_,_,_,rfl,_⟩,⟨_,_,_,rfl,h⟩⟩:=h
 exact ⟨_,_,_,_,_,_,_,_,rfl,_,_,_,rfl,h⟩
theorem outM_few {l:List UInt8} (hl : l.length≤900000):SmM (outM (parse l)):=by
 cases h : parse l with
 | ok m=>exact SmM.of (Nat.le_trans (parse_sp h).2 hl)
 | bad e p=>exact SmM.none
end Go.Proofs.YtojkkgghndeimaaGreatDoor
